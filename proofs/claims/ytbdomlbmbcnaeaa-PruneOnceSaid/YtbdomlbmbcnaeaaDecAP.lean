/- What each function of these laws comes to. Printed by main.py; no conditions. -/
import Derived.Test.YtbdomlbmbcnaeaaSort
import Derived.Test.YtbdomlbmbcnaeaaAwk
namespace Go.Proofs.Ytbdomlbmbcnaeaa
open Go.Abs
set_option maxRecDepth 100000
attribute [local irreducible] ev evAt evW evList evOp evRes EvCall VS aop aload astore AX.then AX.inBlock kRun kRunQ aput evRows
set_option linter.unusedVariables false
structure Affidavitlaw24_Act where
 Kind : Int
 N : Int
 L : Sl Held
def cAffidavitlaw24_Act (x : Affidavitlaw24_Act) : List AV := (cI .i64) x.Kind ++ (cI .i64) x.N ++ (cL cHeld) x.L
theorem low_cAffidavitlaw24_Act {n : Nat} (x : Affidavitlaw24_Act) : lows n (cAffidavitlaw24_Act x) = true := (lows_app (lows_app (low_cI _) (low_cI _)) ((low_cL low_cHeld) _))
theorem len_cAffidavitlaw24_Act (x : Affidavitlaw24_Act) : (cAffidavitlaw24_Act x).length = 3 := by kernel_rfl
structure Prune_state where
 number : Int
 l : Sl Held
def cPrune_state (x : Prune_state) : List AV := (cI .i64) x.number ++ (cL cHeld) x.l
theorem low_cPrune_state {n : Nat} (x : Prune_state) : lows n (cPrune_state x) = true := (lows_app (low_cI _) ((low_cL low_cHeld) _))
theorem len_cPrune_state (x : Prune_state) : (cPrune_state x).length = 2 := by kernel_rfl
structure Prune_Book where
 l : Sl Prune_state
 dead : Sl Held
def cPrune_Book (x : Prune_Book) : List AV := (cL cPrune_state) x.l ++ (cL cHeld) x.dead
theorem low_cPrune_Book {n : Nat} (x : Prune_Book) : lows n (cPrune_Book x) = true := (lows_app ((low_cL low_cPrune_state) _) ((low_cL low_cHeld) _))
theorem len_cPrune_Book (x : Prune_Book) : (cPrune_Book x).length = 2 := by kernel_rfl
structure Affidavitref24_State where
 N : Int
 L : Sl Held
def cAffidavitref24_State (x : Affidavitref24_State) : List AV := (cI .i64) x.N ++ (cL cHeld) x.L
theorem low_cAffidavitref24_State {n : Nat} (x : Affidavitref24_State) : lows n (cAffidavitref24_State x) = true := (lows_app (low_cI _) ((low_cL low_cHeld) _))
theorem len_cAffidavitref24_State (x : Affidavitref24_State) : (cAffidavitref24_State x).length = 2 := by kernel_rfl
structure Affidavitref24_Book where
 L : Sl Affidavitref24_State
 Dead : Sl Held
def cAffidavitref24_Book (x : Affidavitref24_Book) : List AV := (cL cAffidavitref24_State) x.L ++ (cL cHeld) x.Dead
theorem low_cAffidavitref24_Book {n : Nat} (x : Affidavitref24_Book) : lows n (cAffidavitref24_Book x) = true := (lows_app ((low_cL low_cAffidavitref24_State) _) ((low_cL low_cHeld) _))
theorem len_cAffidavitref24_Book (x : Affidavitref24_Book) : (cAffidavitref24_Book x).length = 2 := by kernel_rfl
def prune_New  : Option ((Sl Prune_state) × (Sl Held)) :=
 some ((⟨true, true, []⟩ : Sl Prune_state), (⟨true, true, []⟩ : Sl Held))
theorem prune_New_ev {r : (Sl Prune_state) × (Sl Held)} (hF : prune_New = some r) : EvCall Try.prog T G0 8 [] [] (fun v H' => v = .ptr 0 0 ∧ H' = [.cells ((cL cPrune_state) r.1 ++ (cL cHeld) r.2)]) := by
 refine x_call Try.func8 (by kernel_rfl) (by kernel_rfl) rfl ?_
 refine x_seq (by kernel_rfl) ?_
 refine x_region (by kernel_rfl) ?_
 refine w_run 1 [] rfl (by kernel_rfl) ?_
 refine w_end (by kernel_rfl) ?_
 refine then_n ?_
 refine go_same ?_
 refine x_seq (by kernel_rfl) ?_
 refine x_region (by kernel_rfl) ?_
 refine w_run 3 [.cells (cPrune_Book (⟨(⟨true, true, []⟩ : Sl Prune_state), (⟨true, true, []⟩ : Sl Held)⟩ : Prune_Book))] rfl (by kernel_rfl) ?_
 refine w_end (by kernel_rfl) ?_
 refine then_n ?_
 refine go_same ?_
 refine x_ret (by kernel_rfl) ?_
 have e := Option.some.inj hF
 subst e
 exact fin_sh [0] (.inl rfl) (by kernel_rfl) (by kernel_rfl) (by kernel_rfl) (by kernel_rfl) rfl (shh (b0 := .cells (cPrune_Book (⟨(⟨true, true, []⟩ : Sl Prune_state), (⟨true, true, []⟩ : Sl Held)⟩ : Prune_Book))) (by kernel_rfl) (shb_cells (by kernel_rfl) (by kernel_rfl) (tights_app (tights_lows ((low_cL low_cPrune_state) _)) (tights_lows ((low_cL low_cHeld) _)))) shh_nil) (And.intro rfl rfl)
def prune_NewR : Option Unit := (prune_New).bind fun _ => some ()
theorem prune_NewR_ev {r : Unit} (hF : prune_NewR = some r) : EvCall Try.prog T G0 8 [] [] (fun v H' => v = .ptr 0 0 ∧ H' = [.cells ([sl cPrune_state ⟨true, true, []⟩] ++ [rfv false (⟨true, true, []⟩ : Sl Held) 1 2]), rfb cHeld ⟨true, true, []⟩]) := by
 refine bind_elim hF fun y hy _ => ?_
 have e : y = ((⟨true, true, []⟩ : Sl _), (⟨true, true, []⟩ : Sl _)) := (Option.some.inj hy).symm
 subst e
 refine EvCall.vs (prune_New_ev hy) ?_
 rintro r H1 ⟨rfl, rfl⟩
 exact ⟨_, _, VS.thawC cHeld 0 1 2 rfl rfl, rfl, rfl⟩
def l24_few (a0 : Sl Held) : Option Bool :=
 some (iLe (a0.l.length : Int) 300)
theorem l24_few_ev {a0 : Sl Held} {r : Bool} (hF : l24_few a0 = some r) : EvCall Try.prog T G0 10 [sl cHeld a0] [] (fun v H' => v = .bool r ∧ H' = []) := by
 refine x_call Try.func10 (by kernel_rfl) (by kernel_rfl) rfl ?_
 refine x_seq (by kernel_rfl) ?_
 refine x_region (by kernel_rfl) ?_
 refine w_run 1 [] rfl (by kernel_rfl) ?_
 refine w_end (by kernel_rfl) ?_
 refine then_n ?_
 refine go_same ?_
 refine x_seq (by kernel_rfl) ?_
 refine x_region (by kernel_rfl) ?_
 refine w_run 4 [] rfl (by kernel_rfl) ?_
 refine w_end (by kernel_rfl) ?_
 refine then_n ?_
 refine go_same ?_
 refine x_ret (by kernel_rfl) ?_
 have e := Option.some.inj hF
 subst e
 exact fin_end (.inl rfl) (by kernel_rfl) (by kernel_rfl) (Nat.zero_le _) rfl (by kernel_rfl) ⟨rfl, rfl⟩
def prune_Book_sizes_J4 (p147 : Mp Int Int) : Option (Mp Int Int) :=
 some p147
def prune_Book_sizes_J7 (k215 : ((Mp Int Int) × Int) → Option (Mp Int Int)) (x215 : (Mp Int Int) × Int) (p230 : Mp Int Int) : Option (Mp Int Int) :=
 k215 (p230, iAdd .i64 x215.2 1)
def prune_Book_sizes_B242 (k215 : ((Mp Int Int) × Int) → Option (Mp Int Int)) (x215 : (Mp Int Int) × Int) (y231 : Prune_state) (k242 : ((Mp Int Int) × Int) → Option (Mp Int Int)) (x242 : (Mp Int Int) × Int) : Option (Mp Int Int) :=
 if iLt x242.2 (y231.l.l.length : Int) = true then (idxL y231.l.l x242.2).bind fun y244 => k242 (Mp.put x242.1 y244.Number (iAdd .i64 y244.Size 1), iAdd .i64 x242.2 1) else prune_Book_sizes_J7 k215 x215 x242.1
def prune_Book_sizes_B215 (a0 : Sl Prune_state) (k215 : ((Mp Int Int) × Int) → Option (Mp Int Int)) (x215 : (Mp Int Int) × Int) : Option (Mp Int Int) :=
 if iLt x215.2 (a0.l.length : Int) = true then (idxL a0.l x215.2).bind fun y231 => loopN (prune_Book_sizes_B242 k215 x215 y231) FUEL (x215.1, 0) else prune_Book_sizes_J4 x215.1
def prune_Book_sizes (a0 : Sl Prune_state) (a1 : Sl Held) : Option (Mp Int Int) :=
 loopN (prune_Book_sizes_B215 a0) FUEL (Mp.none, 0)
theorem prune_Book_sizes_ev {a0 : Sl Prune_state} {a1 : Sl Held} {r : (Mp Int Int)} (hF : prune_Book_sizes a0 a1 = some r) : EvCall Try.prog T G0 26 [.ptr 0 0] [.cells ((cL cPrune_state) a0 ++ [rfv false a1 1 2]), rfb cHeld a1] (fun v H' => v = .map 2 ∧ H' = [.cells ((cL cPrune_state) a0 ++ [rfv false a1 1 2]), rfb cHeld a1, mpb (AV.int .i64) (AV.int .i64) r]) := by
 refine x_call Try.func26 (by kernel_rfl) (by kernel_rfl) rfl ?_
 refine x_seq (by kernel_rfl) ?_
 refine x_region (by kernel_rfl) ?_
 refine w_run 1 [.cells ((cL cPrune_state) a0 ++ [rfv false a1 1 2]), rfb cHeld a1] rfl (by kernel_rfl) ?_
 refine w_end (by kernel_rfl) ?_
 refine then_n ?_
 refine go_same ?_
 refine x_seq (by kernel_rfl) ?_
 refine x_region (by kernel_rfl) ?_
 refine w_run 2 [.cells ((cL cPrune_state) a0 ++ [rfv false a1 1 2]), rfb cHeld a1, mpb (AV.int .i64) (AV.int .i64) Mp.none] rfl (by kernel_rfl) ?_
 refine w_end (by kernel_rfl) ?_
 refine then_n ?_
 refine go_same ?_
 refine x_join (fun fr H => ∃ (p147 : Mp Int Int) (g148 : Option Bool), fr = [.any, .any, .any, .map 2, .any, .any, .any, .any, .any, .any, .any, .any, .any, .any, .any, .bool false, .any, .any, .any, .any, .any, .any, junkB g148, .any, .any, .any, .any, .any, .any, .any, .any, .any, .any, .any] ∧ H = [.cells ((cL cPrune_state) a0 ++ [rfv false a1 1 2]), rfb cHeld a1, mpb (AV.int .i64) (AV.int .i64) p147] ∧ prune_Book_sizes_J4 p147 = some r) (by kernel_rfl) (fun fr H ⟨p147, g148, e1, e2, hF⟩ => ?_) (fun hJ4 => ?_)
 ·subst e1 e2
  refine x_seq (by kernel_rfl) ?_
  refine x_region (by kernel_rfl) ?_
  refine w_run 2 [.cells ((cL cPrune_state) a0 ++ [rfv false a1 1 2]), rfb cHeld a1, mpb (AV.int .i64) (AV.int .i64) p147] rfl (by kernel_rfl) ?_
  refine w_end (by kernel_rfl) ?_
  refine then_n ?_
  refine go_same ?_
  refine x_ret (by kernel_rfl) ?_
  have e := Option.some.inj hF
  subst e
  exact fin_sh [0, 1, 2] (.inl rfl) (by kernel_rfl) (by kernel_rfl) (by kernel_rfl) (by kernel_rfl) rfl (shh (b0 := .cells ((cL cPrune_state) a0 ++ [rfv false a1 1 2])) (by kernel_rfl) (shb_cells (by kernel_rfl) (by kernel_rfl) (tights_app (tights_lows ((low_cL low_cPrune_state) _)) (tights_cons rfl rfl))) (shh (b0 := rfb cHeld a1) (by kernel_rfl) (NoRef.shb (noref_rfb low_cHeld _)) (shh (b0 := mpb (AV.int .i64) (AV.int .i64) p147) (by kernel_rfl) (NoRef.shb (noref_mpb (fun _ => rfl) (fun _ => rfl) _)) shh_nil))) (And.intro rfl rfl)
 ·refine x_seq (by kernel_rfl) ?_
  refine x_region (by kernel_rfl) ?_
  refine w_run 6 [.cells ((cL cPrune_state) a0 ++ [rfv false a1 1 2]), rfb cHeld a1, mpb (AV.int .i64) (AV.int .i64) Mp.none] rfl (by kernel_rfl) ?_
  refine w_end (by kernel_rfl) ?_
  refine then_n ?_
  refine go_same ?_
  refine x_block (by kernel_rfl) ?_
  refine x_loop (fun d fr H => ∃ (x215 : (Mp Int Int) × Int) (g180 : Option Bool) (g181 : Option Bool), fr = [.any, .any, .any, .map 2, .any, .any, .any, .any, .any, .any, .any, .any, sl cPrune_state a0, .int .i64 (a0.l.length : Int), .int .i64 x215.2, junkB g180, .any, .any, .any, .any, .any, .any, junkB g181, .any, .any, .any, .any, .any, .any, .any, .any, .any, .any, .any] ∧ H = [.cells ((cL cPrune_state) a0 ++ [rfv false a1 1 2]), rfb cHeld a1, mpb (AV.int .i64) (AV.int .i64) x215.1] ∧ loopN (prune_Book_sizes_B215 a0) d x215 = some r) (by kernel_rfl) (fun fr H ⟨x215, g180, g181, e1, e2, hF⟩ => loop_no hF) (fun d215 fr H ⟨x215, g180, g181, e1, e2, hF⟩ => ?_) (VS.same2 17179840503 (by kernel_rfl) (by kernel_rfl)) ⟨(Mp.none, 0), none, none, rfl, rfl, hF⟩
  subst e1 e2
  have hF := loop_in hF
  refine x_seq (by kernel_rfl) ?_
  refine x_region (by kernel_rfl) ?_
  refine w_run 1 [.cells ((cL cPrune_state) a0 ++ [rfv false a1 1 2]), rfb cHeld a1, mpb (AV.int .i64) (AV.int .i64) x215.1] rfl (by kernel_rfl) ?_
  refine w_end (by kernel_rfl) ?_
  refine then_n ?_
  refine go_same ?_
  refine x_seq (by kernel_rfl) ?_
  refine ite_elim hF (fun hc1 hF => ?_) (fun hc1 hF => ?_)
  ·refine x_set 15 (b := true) (by kernel_rfl) hc1 ?_
   refine x_cond (b0 := true) (by kernel_rfl) (by kernel_rfl) ?_
   refine x_skip (.inl (by kernel_rfl)) ?_
   refine then_n ?_
   refine go_same ?_
   refine x_join (fun fr H => ∃ (p230 : Mp Int Int), fr = [.any, .any, .any, .map 2, .any, .any, .any, .any, .any, .any, .any, .any, sl cPrune_state a0, .int .i64 (a0.l.length : Int), .int .i64 x215.2, .bool true, .any, .any, .any, .any, .any, .any, .bool false, .any, .any, .any, .any, .any, .any, .any, .any, .any, .any, .any] ∧ H = [.cells ((cL cPrune_state) a0 ++ [rfv false a1 1 2]), rfb cHeld a1, mpb (AV.int .i64) (AV.int .i64) p230] ∧ prune_Book_sizes_J7 (loopN (prune_Book_sizes_B215 a0) d215) x215 p230 = some r) (by kernel_rfl) (fun fr H ⟨p230, e1, e2, hF⟩ => ?_) (fun hJ7 => ?_)
   ·subst e1 e2
    refine x_region (by kernel_rfl) ?_
    refine w_run 2 [.cells ((cL cPrune_state) a0 ++ [rfv false a1 1 2]), rfb cHeld a1, mpb (AV.int .i64) (AV.int .i64) p230] rfl (by kernel_rfl) ?_
    refine w_end (by kernel_rfl) ?_
    refine then_n ?_
    exact x_back (VS.same2 17179840503 (by kernel_rfl) (by kernel_rfl)) ⟨(p230, iAdd .i64 x215.2 1), (some true), (some false), rfl, rfl, hF⟩
   ·refine x_block (by kernel_rfl) ?_
    refine x_seq (by kernel_rfl) ?_
    refine x_region (by kernel_rfl) ?_
    refine bind_elim hF (fun y231 hy231 hF => w_iaddr cPrune_state (sz := 2) hy231 (by kernel_rfl) (by decide) len_cPrune_state ?_)
    refine w_elem cPrune_state 0 (t := 63) (v := .agg (cPrune_state y231)) (sz := 2) (z := 2) hy231 (by kernel_rfl) (by kernel_rfl) len_cPrune_state (by decide) (by decide) ?_
    refine w_run 4 [.cells ((cL cPrune_state) a0 ++ [rfv false a1 1 2]), rfb cHeld a1, mpb (AV.int .i64) (AV.int .i64) x215.1, .cells (cPrune_state y231)] rfl (by kernel_rfl) ?_
    refine w_end (by kernel_rfl) ?_
    refine then_n ?_
    refine go_same ?_
    refine x_seq (by kernel_rfl) ?_
    refine x_region (by kernel_rfl) ?_
    refine w_run 4 [.cells ((cL cPrune_state) a0 ++ [rfv false a1 1 2]), rfb cHeld a1, mpb (AV.int .i64) (AV.int .i64) x215.1, .cells (cPrune_state y231)] rfl (by kernel_rfl) ?_
    refine w_end (by kernel_rfl) ?_
    refine then_n ?_
    refine go_same ?_
    refine x_block (by kernel_rfl) ?_
    refine x_loop (fun d fr H => ∃ (x242 : (Mp Int Int) × Int) (g236 : Option Bool), fr = [.any, .any, .any, .map 2, .any, .any, .any, .any, .any, .any, .any, .any, sl cPrune_state a0, .int .i64 (a0.l.length : Int), .int .i64 x215.2, .bool true, .any, .any, .any, sl cHeld y231.l, .int .i64 (y231.l.l.length : Int), .int .i64 x242.2, junkB g236, .any, .any, .any, .any, .any, .any, .any, .any, .any, .any, .any] ∧ H = [.cells ((cL cPrune_state) a0 ++ [rfv false a1 1 2]), rfb cHeld a1, mpb (AV.int .i64) (AV.int .i64) x242.1] ∧ loopN (prune_Book_sizes_B242 (loopN (prune_Book_sizes_B215 a0) d215) x215 y231) d x242 = some r) (by kernel_rfl) (fun fr H ⟨x242, g236, e1, e2, hF⟩ => loop_no hF) (fun d242 fr H ⟨x242, g236, e1, e2, hF⟩ => ?_) (VS.shX [0, 1, 2] 17171943415 [22] (by kernel_rfl) (by kernel_rfl) (by kernel_rfl) (by exact ⟨low_junk g181, trivial⟩) (tights_at [12, 19, 22] (by kernel_rfl) (by exact ⟨(tight_sl low_cPrune_state), (tight_sl low_cHeld), (tight_junk g181), trivial⟩)) (shh (b0 := .cells ((cL cPrune_state) a0 ++ [rfv false a1 1 2])) (by kernel_rfl) (shb_cells (by kernel_rfl) (by kernel_rfl) (tights_app (tights_lows ((low_cL low_cPrune_state) _)) (tights_cons rfl rfl))) (shh (b0 := rfb cHeld a1) (by kernel_rfl) (NoRef.shb (noref_rfb low_cHeld _)) (shh (b0 := mpb (AV.int .i64) (AV.int .i64) x215.1) (by kernel_rfl) (NoRef.shb (noref_mpb (fun _ => rfl) (fun _ => rfl) _)) shh_nil)))) ⟨(x215.1, 0), g181, rfl, rfl, hF⟩
    subst e1 e2
    have hF := loop_in hF
    refine x_seq (by kernel_rfl) ?_
    refine x_region (by kernel_rfl) ?_
    refine w_run 1 [.cells ((cL cPrune_state) a0 ++ [rfv false a1 1 2]), rfb cHeld a1, mpb (AV.int .i64) (AV.int .i64) x242.1] rfl (by kernel_rfl) ?_
    refine w_end (by kernel_rfl) ?_
    refine then_n ?_
    refine go_same ?_
    refine x_seq (by kernel_rfl) ?_
    refine ite_elim hF (fun hc2 hF => ?_) (fun hc2 hF => ?_)
    ·refine x_set 22 (b := true) (by kernel_rfl) hc2 ?_
     refine x_cond (b0 := true) (by kernel_rfl) (by kernel_rfl) ?_
     refine x_skip (.inl (by kernel_rfl)) ?_
     refine then_n ?_
     refine go_same ?_
     refine x_seq (by kernel_rfl) ?_
     refine x_block (by kernel_rfl) ?_
     refine x_seq (by kernel_rfl) ?_
     refine x_region (by kernel_rfl) ?_
     refine bind_elim hF (fun y244 hy244 hF => w_iaddr cHeld (sz := 2) hy244 (by kernel_rfl) (by decide) len_cHeld ?_)
     refine w_elem cHeld 0 (t := 41) (v := .agg (cHeld y244)) (sz := 2) (z := 2) hy244 (by kernel_rfl) (by kernel_rfl) len_cHeld (by decide) (by decide) ?_
     refine w_run 4 [.cells ((cL cPrune_state) a0 ++ [rfv false a1 1 2]), rfb cHeld a1, mpb (AV.int .i64) (AV.int .i64) x242.1, .cells (cHeld y244)] rfl (by kernel_rfl) ?_
     refine w_end (by kernel_rfl) ?_
     refine then_n ?_
     refine go_same ?_
     refine x_region (by kernel_rfl) ?_
     refine w_run 6 [.cells ((cL cPrune_state) a0 ++ [rfv false a1 1 2]), rfb cHeld a1, mpb (AV.int .i64) (AV.int .i64) x242.1, .cells (cHeld y244)] rfl (by kernel_rfl) ?_
     refine w_mput (AV.int .i64) (AV.int .i64) (t := 64) (l := 2) (a := y244.Number) (v := iAdd .i64 y244.Size 1) (kt := 3) (et := 3) x242.1 (by kernel_rfl) (by kernel_rfl) (key_int (by kernel_rfl)) (by kernel_rfl) ?_
     refine w_end (by kernel_rfl) ?_
     refine block_n ?_
     refine then_n ?_
     refine go_same ?_
     refine x_region (by kernel_rfl) ?_
     refine w_run 2 [.cells ((cL cPrune_state) a0 ++ [rfv false a1 1 2]), rfb cHeld a1, mpb (AV.int .i64) (AV.int .i64) (Mp.put x242.1 y244.Number (iAdd .i64 y244.Size 1)), .cells (cHeld y244)] rfl (by kernel_rfl) ?_
     refine w_end (by kernel_rfl) ?_
     refine then_n ?_
     exact x_back (VS.sh [0, 1, 2] 17176137719 (by kernel_rfl) (by kernel_rfl) (by kernel_rfl) (tights_at [12, 19] (by kernel_rfl) (by exact ⟨(tight_sl low_cPrune_state), (tight_sl low_cHeld), trivial⟩)) (shh (b0 := .cells ((cL cPrune_state) a0 ++ [rfv false a1 1 2])) (by kernel_rfl) (shb_cells (by kernel_rfl) (by kernel_rfl) (tights_app (tights_lows ((low_cL low_cPrune_state) _)) (tights_cons rfl rfl))) (shh (b0 := rfb cHeld a1) (by kernel_rfl) (NoRef.shb (noref_rfb low_cHeld _)) (shh (b0 := mpb (AV.int .i64) (AV.int .i64) (Mp.put x242.1 y244.Number (iAdd .i64 y244.Size 1))) (by kernel_rfl) (NoRef.shb (noref_mpb (fun _ => rfl) (fun _ => rfl) _)) shh_nil)))) ⟨(Mp.put x242.1 y244.Number (iAdd .i64 y244.Size 1), iAdd .i64 x242.2 1), (some true), rfl, rfl, hF⟩
    ·refine x_set 22 (b := false) (by kernel_rfl) hc2 ?_
     refine x_cond (b0 := false) (by kernel_rfl) (by kernel_rfl) ?_
     refine x_exit (by kernel_rfl) ?_
     refine then_e ?_
     refine then_e ?_
     refine block_e ?_
     refine block_n ?_
     refine then_n ?_
     exact x_to hJ7 (VS.same2 17175613431 (by kernel_rfl) (by kernel_rfl)) ⟨x242.1, rfl, rfl, hF⟩
  ·refine x_set 15 (b := false) (by kernel_rfl) hc1 ?_
   refine x_cond (b0 := false) (by kernel_rfl) (by kernel_rfl) ?_
   refine x_exit (by kernel_rfl) ?_
   refine then_e ?_
   refine then_e ?_
   refine block_e ?_
   refine then_n ?_
   exact x_to hJ4 (VS.same2 17175642103 (by kernel_rfl) (by kernel_rfl)) ⟨x215.1, g181, rfl, rfl, hF⟩
def prune_Book_Prune_1 (a0 : Held) (a1 : Mp Int Int) (a2 : Sl Prune_state) (a3 : Sl Held) : Option ((Mp Int Int) × (Sl Held)) :=
 if ((Mp.get a1 a0.Number).getD 0 == 0) = true then (appL 16 a3 (⟨false, true, [a0]⟩ : Sl Held).l).bind fun y250 => some (Mp.put a1 a0.Number (iAdd .i64 a0.Size 1), y250) else some (a1, a3)
theorem prune_Book_Prune_1_ev {a0 : Held} {a1 : Mp Int Int} {a2 : Sl Prune_state} {a3 : Sl Held} {r : (Mp Int Int) × (Sl Held)} (hF : prune_Book_Prune_1 a0 a1 a2 a3 = some r) : EvCall Try.prog T G0 27 [.agg (cHeld a0), .ptr 0 0, .ptr 2 0] [.cells ([.map 1]), mpb (AV.int .i64) (AV.int .i64) a1, .cells ([.ptr 3 0]), .cells ((cL cPrune_state) a2 ++ [rfv false a3 4 2]), rfb cHeld a3] (fun v H' => v = .tup [] ∧ H' = [.cells ([.map 1]), mpb (AV.int .i64) (AV.int .i64) r.1, .cells ([.ptr 3 0]), .cells ((cL cPrune_state) a2 ++ [rfv false r.2 5 2]), .dead, rfb cHeld r.2]) := by
 refine x_call Try.func27 (by kernel_rfl) (by kernel_rfl) rfl ?_
 refine x_seq (by kernel_rfl) ?_
 refine x_region (by kernel_rfl) ?_
 refine w_run 1 [.cells ([.map 1]), mpb (AV.int .i64) (AV.int .i64) a1, .cells ([.ptr 3 0]), .cells ((cL cPrune_state) a2 ++ [rfv false a3 4 2]), rfb cHeld a3, .cells (cHeld a0)] rfl (by kernel_rfl) ?_
 refine w_end (by kernel_rfl) ?_
 refine then_n ?_
 refine go_same ?_
 refine x_seq (by kernel_rfl) ?_
 refine x_region (by kernel_rfl) ?_
 refine w_run 3 [.cells ([.map 1]), mpb (AV.int .i64) (AV.int .i64) a1, .cells ([.ptr 3 0]), .cells ((cL cPrune_state) a2 ++ [rfv false a3 4 2]), rfb cHeld a3, .cells (cHeld a0)] rfl (by kernel_rfl) ?_
 refine w_mget (AV.int .i64) (AV.int .i64) (t := 64) (l := 1) (a := a0.Number) (ok := false) (kt := 3) (et := 3) (z := 0) a1 (by kernel_rfl) (by kernel_rfl) (key_int (by kernel_rfl)) (by kernel_rfl) (by kernel_rfl) ?_
 refine w_run 5 [.cells ([.map 1]), mpb (AV.int .i64) (AV.int .i64) a1, .cells ([.ptr 3 0]), .cells ((cL cPrune_state) a2 ++ [rfv false a3 4 2]), rfb cHeld a3, .cells (cHeld a0)] rfl (by kernel_rfl) ?_
 refine w_end (by kernel_rfl) ?_
 refine then_n ?_
 refine go_same ?_
 refine ite_elim hF (fun hc1 hF => ?_) (fun hc1 hF => ?_)
 ·refine x_set 8 (b := true) (by kernel_rfl) hc1 ?_
  refine x_cond (b0 := true) (by kernel_rfl) (by kernel_rfl) ?_
  refine x_seq (by kernel_rfl) ?_
  refine x_region (by kernel_rfl) ?_
  refine w_run 6 [.cells ([.map 1]), mpb (AV.int .i64) (AV.int .i64) a1, .cells ([.ptr 3 0]), .cells ((cL cPrune_state) a2 ++ [rfv false a3 4 2]), rfb cHeld a3, .cells (cHeld a0)] rfl (by kernel_rfl) ?_
  refine w_mput (AV.int .i64) (AV.int .i64) (t := 64) (l := 1) (a := a0.Number) (v := iAdd .i64 a0.Size 1) (kt := 3) (et := 3) a1 (by kernel_rfl) (by kernel_rfl) (key_int (by kernel_rfl)) (by kernel_rfl) ?_
  refine w_end (by kernel_rfl) ?_
  refine then_n ?_
  refine go_same ?_
  refine x_rows 0 895 [⟨7, [8, 9], [0, 8, 9], [], [0]⟩, ⟨10, [], [], [], []⟩] call_ends callMono (by kernel_rfl) (by kernel_rfl) ?_
  refine w_pure 6 rfl (by kernel_rfl) ?_
  refine w_frz (v := sl cHeld (⟨false, true, [a0]⟩ : Sl Held)) (by kernel_rfl) ?_
  refine w_end (by kernel_rfl) ?_
  refine rows_next ?_
  refine bind_elim hF (fun y250 hy250 hF => w_rapp cHeld (e := 41) (l := 4) (ex := false) (y := sl cHeld (⟨false, true, [a0]⟩ : Sl Held)) (sz := 2) (x := a3) (ys := (⟨false, true, [a0]⟩ : Sl Held).l) hy250 (by kernel_rfl) (by decide) len_cHeld (by kernel_rfl) (gives_sl (x := (⟨false, true, [a0]⟩ : Sl Held)) (by kernel_rfl) len_cHeld) ?_)
  refine w_end (by kernel_rfl) ?_
  refine ⟨⟨(by kernel_rfl), chks_of (by kernel_rfl) (by kernel_rfl)⟩, ?_⟩
  refine w_pure 2 rfl (by kernel_rfl) ?_
  refine w_end (by kernel_rfl) ?_
  refine rows_next ?_
  refine w_run 1 [.cells ([.map 1]), mpb (AV.int .i64) (AV.int .i64) (Mp.put a1 a0.Number (iAdd .i64 a0.Size 1)), .cells ([.ptr 3 0]), .cells ((cL cPrune_state) a2 ++ [rfv false y250 6 2]), .dead, .cells (cHeld a0), rfb cHeld y250] rfl (by kernel_rfl) ?_
  refine w_end (by kernel_rfl) ?_
  refine ⟨⟨(by kernel_rfl), trivial⟩, ?_⟩
  refine w_end (by kernel_rfl) ?_
  refine rows_done ?_
  refine ⟨_, _, VS.refl _ _ _, ?_⟩
  have e := Option.some.inj hF
  subst e
  exact fin_sh [0, 1, 2, 3, 4, 6] (.inr rfl) (by kernel_rfl) (by kernel_rfl) (by kernel_rfl) (by kernel_rfl) rfl (shh (b0 := .cells ([.map 1])) (by kernel_rfl) (shb_cells (by kernel_rfl) (by kernel_rfl) (tights_cons rfl rfl)) (shh (b0 := mpb (AV.int .i64) (AV.int .i64) (Mp.put a1 a0.Number (iAdd .i64 a0.Size 1))) (by kernel_rfl) (NoRef.shb (noref_mpb (fun _ => rfl) (fun _ => rfl) _)) (shh (b0 := .cells ([.ptr 3 0])) (by kernel_rfl) (shb_cells (by kernel_rfl) (by kernel_rfl) (tights_cons rfl rfl)) (shh (b0 := .cells ((cL cPrune_state) a2 ++ [rfv false y250 6 2])) (by kernel_rfl) (shb_cells (by kernel_rfl) (by kernel_rfl) (tights_app (tights_lows ((low_cL low_cPrune_state) _)) (tights_cons rfl rfl))) (shh (b0 := .dead) (by kernel_rfl) (shb_dead (by kernel_rfl)) (shh (b0 := rfb cHeld y250) (by kernel_rfl) (NoRef.shb (noref_rfb low_cHeld _)) shh_nil)))))) (And.intro rfl rfl)
 ·refine x_set 8 (b := false) (by kernel_rfl) hc1 ?_
  refine x_cond (b0 := false) (by kernel_rfl) (by kernel_rfl) ?_
  refine x_skip (.inl (by kernel_rfl)) ?_
  have e := Option.some.inj hF
  subst e
  exact fin_vs2 (.inr rfl) (by kernel_rfl) (VS.trans (VS.move cHeld a3 4 [] [3] (by kernel_rfl) (by kernel_rfl)) (VS.sh [0, 1, 2, 3, 4, 6] 0 (by kernel_rfl) (by kernel_rfl) (by kernel_rfl) (by kernel_rfl) (shh (b0 := .cells ([.map 1])) (by kernel_rfl) (shb_cells (by kernel_rfl) (by kernel_rfl) (tights_cons rfl rfl)) (shh (b0 := mpb (AV.int .i64) (AV.int .i64) a1) (by kernel_rfl) (NoRef.shb (noref_mpb (fun _ => rfl) (fun _ => rfl) _)) (shh (b0 := .cells ([.ptr 3 0])) (by kernel_rfl) (shb_cells (by kernel_rfl) (by kernel_rfl) (tights_cons rfl rfl)) (shh (b0 := .cells ((cL cPrune_state) a2 ++ [rfv false a3 6 2])) (by kernel_rfl) (shb_cells (by kernel_rfl) (by kernel_rfl) (tights_app (tights_lows ((low_cL low_cPrune_state) _)) (tights_cons rfl rfl))) (shh (b0 := .dead) (by kernel_rfl) (shb_dead (by kernel_rfl)) (shh (b0 := rfb cHeld a3) (by kernel_rfl) (NoRef.shb (noref_rfb low_cHeld _)) shh_nil)))))))) (And.intro rfl rfl)
def prune_Book_Prune_J10 (y50 : Sl Prune_state) (p201 : Sl Held) (y203 : Sl Held) (p238 : Sl Int) : Option ((Sl Int) × (Sl Prune_state) × (Sl Held)) :=
 (cutL y203 (some (if 64 < (p201.l.length : Int) then 64 else (p201.l.length : Int))) none none).bind fun y247 => (appL 16 (⟨false, true, []⟩ : Sl Held) y247.l).bind fun y248 => some (p238.weak, y50, y248)
def prune_Book_Prune_B277 (y50 : Sl Prune_state) (p201 : Sl Held) (y203 : Sl Held) (y250 : Sl Held) (k277 : ((Sl Int) × Int) → Option ((Sl Int) × (Sl Prune_state) × (Sl Held))) (x277 : (Sl Int) × Int) : Option ((Sl Int) × (Sl Prune_state) × (Sl Held)) :=
 if iLt x277.2 (y250.l.length : Int) = true then (idxL y250.l x277.2).bind fun y280 => (appL 8 x277.1 (⟨false, true, [y280.Number]⟩ : Sl Int).l).bind fun y281 => k277 (y281, iAdd .i64 x277.2 1) else prune_Book_Prune_J10 y50 p201 y203 x277.1
def prune_Book_Prune_J9 (y50 : Sl Prune_state) (p201 : Sl Held) : Option ((Sl Int) × (Sl Prune_state) × (Sl Held)) :=
 (sortHeld p201).bind fun y203 => (cutL y203 none (some (if 64 < (p201.l.length : Int) then 64 else (p201.l.length : Int))) none).bind fun y250 => loopN (prune_Book_Prune_B277 y50 p201 y203 y250) FUEL (⟨true, true, []⟩, 0)
def prune_Book_Prune_J13 (k384 : ((Sl Held) × (Mp Int Int) × Int) → Option ((Sl Int) × (Sl Prune_state) × (Sl Held))) (x384 : (Sl Held) × (Mp Int Int) × Int) (p407 : Sl Held) (p408 : Mp Int Int) : Option ((Sl Int) × (Sl Prune_state) × (Sl Held)) :=
 k384 (p407, p408, iAdd .i64 x384.2.2 1)
def prune_Book_Prune_B426 (y50 : Sl Prune_state) (k384 : ((Sl Held) × (Mp Int Int) × Int) → Option ((Sl Int) × (Sl Prune_state) × (Sl Held))) (x384 : (Sl Held) × (Mp Int Int) × Int) (y409 : Prune_state) (k426 : ((Sl Held) × (Mp Int Int) × Int) → Option ((Sl Int) × (Sl Prune_state) × (Sl Held))) (x426 : (Sl Held) × (Mp Int Int) × Int) : Option ((Sl Int) × (Sl Prune_state) × (Sl Held)) :=
 if iLt x426.2.2 (y409.l.l.length : Int) = true then (idxL y409.l.l x426.2.2).bind fun y429 => (prune_Book_Prune_1 y429 x426.2.1 y50 x426.1).bind fun y430 => k426 (y430.2, y430.1, iAdd .i64 x426.2.2 1) else prune_Book_Prune_J13 k384 x384 x426.1 x426.2.1
def prune_Book_Prune_B384 (y44 : Sl Prune_state) (y50 : Sl Prune_state) (k384 : ((Sl Held) × (Mp Int Int) × Int) → Option ((Sl Int) × (Sl Prune_state) × (Sl Held))) (x384 : (Sl Held) × (Mp Int Int) × Int) : Option ((Sl Int) × (Sl Prune_state) × (Sl Held)) :=
 if iLt x384.2.2 (y44.l.length : Int) = true then (idxL y44.l x384.2.2).bind fun y409 => loopN (prune_Book_Prune_B426 y50 k384 x384 y409) FUEL (x384.1, x384.2.1, 0) else prune_Book_Prune_J9 y50 x384.1
def prune_Book_Prune_J5 (a1 : Sl Prune_state) (a2 : Sl Held) (p42 : Int) : Option ((Sl Int) × (Sl Prune_state) × (Sl Held)) :=
 (cutL a1 none (some p42) (some p42)).bind fun y44 => (cutL a1 (some p42) none none).bind fun y49 => (appX 32 (⟨false, true, []⟩ : Sl Prune_state) y49.l).bind fun y50 => (prune_Book_sizes y50 a2).bind fun y51 => loopN (prune_Book_Prune_B384 y44 y50) FUEL (a2, y51, 0)
def prune_Book_Prune_J17 (k453 : (Int × Int) → Option ((Sl Int) × (Sl Prune_state) × (Sl Held))) (x453 : Int × Int) (p455 : Int) : Option ((Sl Int) × (Sl Prune_state) × (Sl Held)) :=
 k453 (p455, iAdd .i64 x453.2 1)
def prune_Book_Prune_B453 (a0 : Int) (a1 : Sl Prune_state) (a2 : Sl Held) (k453 : (Int × Int) → Option ((Sl Int) × (Sl Prune_state) × (Sl Held))) (x453 : Int × Int) : Option ((Sl Int) × (Sl Prune_state) × (Sl Held)) :=
 if iLt x453.2 (a1.l.length : Int) = true then (idxL a1.l x453.2).bind fun y457 => if iLe y457.number a0 = true then prune_Book_Prune_J17 k453 x453 x453.2 else prune_Book_Prune_J17 k453 x453 x453.1 else prune_Book_Prune_J5 a1 a2 x453.1
def prune_Book_Prune (a0 : Int) (a1 : Sl Prune_state) (a2 : Sl Held) : Option ((Sl Int) × (Sl Prune_state) × (Sl Held)) :=
 loopN (prune_Book_Prune_B453 a0 a1 a2) FUEL (0, 0)
theorem prune_Book_Prune_ev {a0 : Int} {a1 : Sl Prune_state} {a2 : Sl Held} {r : (Sl Int) × (Sl Prune_state) × (Sl Held)} (hF : prune_Book_Prune a0 a1 a2 = some r) : EvCall Try.prog T G0 12 [.ptr 0 0, .int .i64 a0] [.cells ((cL cPrune_state) a1 ++ [rfv false a2 1 2]), rfb cHeld a2] (fun v H' => v = sl (cI .i64) r.1 ∧ H' = [.cells ((cL cPrune_state) r.2.1 ++ [rfv false r.2.2 2 2]), .dead, rfb cHeld r.2.2]) := by
 refine x_call Try.func12 (by kernel_rfl) (by kernel_rfl) rfl ?_
 refine x_seq (by kernel_rfl) ?_
 refine x_region (by kernel_rfl) ?_
 refine w_run 2 [.cells ((cL cPrune_state) a1 ++ [rfv false a2 1 2]), rfb cHeld a2, .cells ([.ptr 0 0])] rfl (by kernel_rfl) ?_
 refine w_end (by kernel_rfl) ?_
 refine then_n ?_
 refine go_same ?_
 refine x_seq (by kernel_rfl) ?_
 refine x_seq (by kernel_rfl) ?_
 refine x_region (by kernel_rfl) ?_
 refine w_run 2 [.cells ((cL cPrune_state) a1 ++ [rfv false a2 1 2]), rfb cHeld a2, .cells ([.ptr 0 0])] rfl (by kernel_rfl) ?_
 refine w_end (by kernel_rfl) ?_
 refine then_n ?_
 refine go_same ?_
 refine x_cond (b0 := false) (by kernel_rfl) (by kernel_rfl) ?_
 refine x_skip (.inl (by kernel_rfl)) ?_
 refine then_n ?_
 refine go_same ?_
 refine x_seq (by kernel_rfl) ?_
 refine x_region (by kernel_rfl) ?_
 refine w_run 1 [.cells ((cL cPrune_state) a1 ++ [rfv false a2 1 2]), rfb cHeld a2, .cells ([.ptr 0 0])] rfl (by kernel_rfl) ?_
 refine w_end (by kernel_rfl) ?_
 refine then_n ?_
 refine go_same ?_
 refine x_join (fun fr H => ∃ (p42 : Int) (g43 : Option Bool), fr = [.any, .any, .ptr 2 0, .any, .any, .int .i64 p42, .any, .any, .any, .any, .any, .any, .any, .any, .any, .any, .any, .any, .any, .any, .bool false, .any, .any, .any, .any, .any, .any, .bool false, .any, .any, .any, .any, .any, .any, junkB g43, .any, .any, .any, .any, .any, .any, .any, .any, .any, .any, .any, .any, .any, .any, .any, .any, .any, .any, .any, .any, .any, .any, .any, .any, .any, .any, .any, .any, .any, .any, .any, .any, .any, .any, .any, .any, .any, .any, .any, .any, .any, .any, .any, .any, .any, .any, .any, .any, .any, .any, .any, .any, .any, .any, .any, .any, .any, .any, .any, .any, .any, .any, .any, .any, .any, .any, .any, .any, .any, .any, .any, .any, .any, .any, .any, .any, .any, .any, .any, .any, .any] ∧ H = [.cells ((cL cPrune_state) a1 ++ [rfv false a2 1 2]), rfb cHeld a2, .cells ([.ptr 0 0])] ∧ prune_Book_Prune_J5 a1 a2 p42 = some r) (by kernel_rfl) (fun fr H ⟨p42, g43, e1, e2, hF⟩ => ?_) (fun hJ5 => ?_)
 ·subst e1 e2
  refine x_seq (by kernel_rfl) ?_
  refine x_region (by kernel_rfl) ?_
  refine w_run 6 [.cells ((cL cPrune_state) a1 ++ [rfv false a2 1 2]), rfb cHeld a2, .cells ([.ptr 0 0])] rfl (by kernel_rfl) ?_
  refine bind_elim hF (fun y44 hy44 hF => w_slice cPrune_state (sz := 2) hy44 (by kernel_rfl) len_cPrune_state (fun _ => rfl) ?_)
  refine w_run 8 [.cells ((cL cPrune_state) a1 ++ [rfv false a2 1 2]), rfb cHeld a2, .cells ([.ptr 0 0])] rfl (by kernel_rfl) ?_
  refine w_end (by kernel_rfl) ?_
  refine then_n ?_
  refine go_same ?_
  refine x_seq (by kernel_rfl) ?_
  refine x_rows 0 2047 [⟨11, [], [], [], []⟩] call_ends callMono (by kernel_rfl) (by kernel_rfl) ?_
  refine w_pure 1 rfl (by kernel_rfl) ?_
  refine w_frz (v := sl cPrune_state (⟨false, true, []⟩ : Sl Prune_state)) (by kernel_rfl) ?_
  refine w_pure 7 rfl (by kernel_rfl) ?_
  refine bind_elim hF (fun y49 hy49 hF => w_slice cPrune_state (sz := 2) hy49 (by kernel_rfl) len_cPrune_state (fun e => by cases e) ?_)
  refine bind_elim hF (fun y50 hy50 hF => w_appL cPrune_state (e := 63) (sz := 2) (x := (⟨false, true, []⟩ : Sl Prune_state)) (ys := y49.l) hy50 (by kernel_rfl) (by kernel_rfl) (by decide) len_cPrune_state (gives_sl (x := y49) (by kernel_rfl) len_cPrune_state) ?_)
  refine w_pure 11 rfl (by kernel_rfl) ?_
  refine w_end (by kernel_rfl) ?_
  refine rows_next ?_
  refine w_run 1 [.cells ((cL cPrune_state) y50 ++ [rfv false a2 1 2]), rfb cHeld a2, .cells ([.ptr 0 0])] rfl (by kernel_rfl) ?_
  refine w_end (by kernel_rfl) ?_
  refine ⟨⟨(by kernel_rfl), trivial⟩, ?_⟩
  refine w_end (by kernel_rfl) ?_
  refine rows_done ?_
  refine ⟨_, _, VS.refl _ _ _, ?_⟩
  refine then_n ?_
  refine go_same ?_
  refine x_seq (by kernel_rfl) ?_
  refine x_region (by kernel_rfl) ?_
  refine w_run 1 [.cells ((cL cPrune_state) y50 ++ [rfv false a2 1 2]), rfb cHeld a2, .cells ([.ptr 0 0])] rfl (by kernel_rfl) ?_
  refine bind_elim hF (fun y51 hy51 hF => w_ocall [0, 1] [0, 1, 3] (ga := [.ptr 0 0]) (as0 := [.ptr 0 0]) (h0 := [.cells ((cL cPrune_state) y50 ++ [rfv false a2 1 2]), rfb cHeld a2]) (h1 := [.cells ((cL cPrune_state) y50 ++ [rfv false a2 1 2]), rfb cHeld a2, mpb (AV.int .i64) (AV.int .i64) y51]) (h2 := [.cells ((cL cPrune_state) y50 ++ [rfv false a2 1 2]), rfb cHeld a2, mpb (AV.int .i64) (AV.int .i64) y51]) (H2 := [.cells ((cL cPrune_state) y50 ++ [rfv false a2 1 2]), rfb cHeld a2, .cells ([.ptr 0 0]), mpb (AV.int .i64) (AV.int .i64) y51]) (v0 := .map 2) (v := .map 3) (prune_Book_sizes_ev hy51) (by kernel_rfl) (by kernel_rfl) (by kernel_rfl) (by kernel_rfl) (pl (b' := .cells ((cL cPrune_state) y50 ++ [rfv false a2 1 2])) (by kernel_rfl) (sb_cells (by kernel_rfl) (by kernel_rfl) (tights_app (tights_lows ((low_cL low_cPrune_state) _)) (tights_cons rfl rfl))) (pl (b' := rfb cHeld a2) (by kernel_rfl) (sb_low (noref_rfb low_cHeld _)) pl_nil)) (by kernel_rfl) rfl (sbs (sb_cells (by kernel_rfl) (by kernel_rfl) (tights_app (tights_lows ((low_cL low_cPrune_state) _)) (tights_cons rfl rfl))) (sbs (sb_low (noref_rfb low_cHeld _)) (sbs (sb_low (noref_mpb (fun _ => rfl) (fun _ => rfl) _)) sbs_nil))) (by kernel_rfl) (fun e => by cases e) ?_)
  refine w_run 4 [.cells ((cL cPrune_state) y50 ++ [rfv false a2 1 2]), rfb cHeld a2, .cells ([.ptr 0 0]), mpb (AV.int .i64) (AV.int .i64) y51, .cells ([.map 3])] rfl (by kernel_rfl) ?_
  refine w_end (by kernel_rfl) ?_
  refine then_n ?_
  refine go_same ?_
  refine x_seq (by kernel_rfl) ?_
  refine x_region (by kernel_rfl) ?_
  refine w_run 2 [.cells ((cL cPrune_state) y50 ++ [rfv false a2 1 2]), rfb cHeld a2, .cells ([.ptr 0 0]), mpb (AV.int .i64) (AV.int .i64) y51, .cells ([.map 3])] rfl (by kernel_rfl) ?_
  refine w_end (by kernel_rfl) ?_
  refine then_n ?_
  refine go_same ?_
  refine x_join (fun fr H => ∃ (p201 : Sl Held) (g202 : Option Bool), fr = [.any, .any, .ptr 3 0, .any, .any, .any, .any, .any, .any, .any, .any, .any, .any, .any, .any, .any, .any, .any, .any, .any, .bool false, .any, .any, .any, .any, .any, .any, .bool false, .any, .any, .any, .any, .any, .any, junkB g43, .any, .any, .any, .any, .any, .any, .any, .any, .any, .any, .any, .any, .any, .any, .any, .any, .any, .any, .any, .any, .any, .any, .any, .any, .any, .any, .bool false, .any, .any, .any, .any, .any, .any, junkB g202, .any, .any, .any, .any, .any, .any, .any, .any, .any, .any, .any, .any, .any, .any, .any, .any, .any, .any, .any, .any, .any, .any, .any, .any, .any, .any, .any, .any, .any, .any, .any, .any, .any, .any, .any, .any, .any, .any, .any, .any, .any, .any, .any, .any, .any, .any, .any] ∧ H = [.cells ((cL cPrune_state) y50 ++ [rfv false p201 2 2]), .dead, rfb cHeld p201, .cells ([.ptr 0 0])] ∧ prune_Book_Prune_J9 y50 p201 = some r) (by kernel_rfl) (fun fr H ⟨p201, g202, e1, e2, hF⟩ => ?_) (fun hJ9 => ?_)
  ·subst e1 e2
   refine x_seq (by kernel_rfl) ?_
   refine x_region (by kernel_rfl) ?_
   refine w_run 4 [.cells ((cL cPrune_state) y50 ++ [rfv false p201 2 2]), .dead, rfb cHeld p201, .cells ([.ptr 0 0])] rfl (by kernel_rfl) ?_
   refine bind_elim hF (fun y203 hy203 hF => w_ocall [2] [2] (ga := [rfv false p201 2 2, .fn 29 [] []]) (as0 := [rfv false p201 0 2, .fn 29 [] []]) (h0 := [rfb cHeld p201]) (h1 := [rfb cHeld y203]) (h2 := [rfb cHeld y203]) (H2 := [.cells ((cL cPrune_state) y50 ++ [rfv false p201 2 2]), .dead, rfb cHeld y203, .cells ([.ptr 0 0])]) (v0 := .tup []) (v := .tup []) (sortHeld_ev hy203) (by kernel_rfl) (by kernel_rfl) (by kernel_rfl) (by kernel_rfl) (pl (b' := rfb cHeld p201) (by kernel_rfl) (sb_low (noref_rfb low_cHeld _)) pl_nil) (by kernel_rfl) rfl (sbs (sb_low (noref_rfb low_cHeld _)) sbs_nil) (by kernel_rfl) (fun e => by cases e) ?_)
   refine w_end (by kernel_rfl) ?_
   refine then_n ?_
   refine go_same ?_
   refine x_seq (by kernel_rfl) ?_
   refine x_region (by kernel_rfl) ?_
   refine w_run 7 [.cells ((cL cPrune_state) y50 ++ [rfv false p201 2 2]), .dead, rfb cHeld y203, .cells ([.ptr 0 0])] rfl (by kernel_rfl) ?_
   refine w_end (by kernel_rfl) ?_
   refine then_n ?_
   refine go_same ?_
   refine x_seq (by kernel_rfl) ?_
   refine x_region (by kernel_rfl) ?_
   refine w_run 1 [.cells ((cL cPrune_state) y50 ++ [rfv false p201 2 2]), .dead, rfb cHeld y203, .cells ([.ptr 0 0])] rfl (by kernel_rfl) ?_
   refine w_end (by kernel_rfl) ?_
   refine then_n ?_
   refine go_same ?_
   refine x_join (fun fr H => ∃ (p238 : Sl Int) (g237 : Nat) (g239 : Bool), fr = [.any, .any, .ptr 3 0, .any, .any, .any, .any, .any, .any, .any, .any, .any, .any, .any, .any, .int .i64 (if 64 < (p201.l.length : Int) then 64 else (p201.l.length : Int)), ownv (cI .i64) 4 g237 1 p238, .any, .any, .any, .bool false, .any, .any, .any, .any, .any, .any, .bool false, .any, .any, .any, .any, .any, .any, junkB g43, .any, .any, .any, .any, .any, .any, .any, .any, .any, .any, .any, .any, .any, .any, .any, .any, .any, .any, .any, .any, .any, .any, .any, .any, .any, .any, .bool false, .any, .any, .any, .any, .any, .any, junkB g202, .any, .any, .any, .any, .any, .any, .any, .any, .any, .any, .any, .any, .any, .any, .any, .any, .any, .any, .any, .any, .any, .any, .any, .any, .any, .any, .bool false, .any, .any, .any, .any, .any, .any, .any, .any, .any, .any, .any, .any, .any, .any, .any, .any, .any, .any, .any, .any] ∧ H = [.cells ((cL cPrune_state) y50 ++ [rfv false p201 2 2]), .dead, rfb cHeld y203, .cells ([.ptr 0 0]), .room g237 g239] ∧ prune_Book_Prune_J10 y50 p201 y203 p238 = some r) (by kernel_rfl) (fun fr H ⟨p238, g237, g239, e1, e2, hF⟩ => ?_) (fun hJ10 => ?_)
   ·subst e1 e2
    refine x_seq (by kernel_rfl) ?_
    refine x_rows 0 1789 [⟨1, [], [0, 2, 3, 4, 5, 6, 7], [], [0, 2, 5]⟩, ⟨8, [9, 10], [0, 9, 10], [], [0]⟩, ⟨11, [], [], [], []⟩] call_ends callMono (by kernel_rfl) (by kernel_rfl) ?_
    refine w_pure 6 rfl (by kernel_rfl) ?_
    refine bind_elim hF (fun y247 hy247 hF => w_rslice (e := 41) (l := 2) (ex := false) (nl := p201.nl && p201.l.isEmpty) (b := y203) (sz := 2) (len := p201.l.length) hy247 (sortHeld_len hy203) (by kernel_rfl) (by kernel_rfl) (fun e246 => ?_))
    refine w_end (by kernel_rfl) ?_
    refine rows_next ?_
    refine w_run 1 [.cells ((cL cPrune_state) y50 ++ [rfv false p201 2 2]), .dead, rfb cHeld y203, .cells ([.ptr 0 0]), .room g237 g239, rfb cHeld (⟨false, true, []⟩ : Sl Held)] rfl (by kernel_rfl) ?_
    refine w_end (by kernel_rfl) ?_
    refine ⟨⟨(by kernel_rfl), chks_of (by kernel_rfl) (by kernel_rfl)⟩, ?_⟩
    refine w_end (by kernel_rfl) ?_
    refine rows_next ?_
    refine bind_elim hF (fun y248 hy248 hF => w_rapp cHeld (e := 41) (l := 5) (ex := true) (y := .ref e246 (p201.nl && p201.l.isEmpty) 2 ((cutK (some (if 64 < (p201.l.length : Int) then 64 else (p201.l.length : Int)))) * 2) y247.l.length 2) (sz := 2) (x := (⟨false, true, []⟩ : Sl Held)) (ys := y247.l) hy248 (by kernel_rfl) (by decide) len_cHeld (by kernel_rfl) (gives_rfs hy247 (nl_eq (sortHeld_len hy203) (sortHeld_nl hy203)) (by kernel_rfl) len_cHeld (by kernel_rfl)) ?_)
    refine w_end (by kernel_rfl) ?_
    refine ⟨⟨(by kernel_rfl), chks_of (by kernel_rfl) (by kernel_rfl)⟩, ?_⟩
    refine w_pure 2 rfl (by kernel_rfl) ?_
    refine w_end (by kernel_rfl) ?_
    refine rows_next ?_
    refine w_run 1 [.cells ((cL cPrune_state) y50 ++ [rfv false y248 6 2]), .dead, rfb cHeld y203, .cells ([.ptr 0 0]), .room g237 g239, .dead, rfb cHeld y248] rfl (by kernel_rfl) ?_
    refine w_end (by kernel_rfl) ?_
    refine ⟨⟨(by kernel_rfl), trivial⟩, ?_⟩
    refine w_end (by kernel_rfl) ?_
    refine rows_done ?_
    refine ⟨_, _, VS.refl _ _ _, ?_⟩
    refine then_n ?_
    refine go_same ?_
    refine x_seq (by kernel_rfl) ?_
    refine x_region (by kernel_rfl) ?_
    refine w_run 2 [.cells ((cL cPrune_state) y50 ++ [rfv false y248 6 2]), .dead, rfb cHeld y203, .cells ([.ptr 0 0]), .room g237 g239, .dead, rfb cHeld y248] rfl (by kernel_rfl) ?_
    refine w_end (by kernel_rfl) ?_
    refine then_n ?_
    refine go_same ?_
    refine x_ret (by kernel_rfl) ?_
    have e := Option.some.inj hF
    subst e
    exact fin_sh [0, 1, 6] (.inl rfl) (by kernel_rfl) (by kernel_rfl) (by kernel_rfl) (by kernel_rfl) (tight_sl low_cI) (shh (b0 := .cells ((cL cPrune_state) y50 ++ [rfv false y248 6 2])) (by kernel_rfl) (shb_cells (by kernel_rfl) (by kernel_rfl) (tights_app (tights_lows ((low_cL low_cPrune_state) _)) (tights_cons rfl rfl))) (shh (b0 := .dead) (by kernel_rfl) (shb_dead (by kernel_rfl)) (shh (b0 := rfb cHeld y248) (by kernel_rfl) (NoRef.shb (noref_rfb low_cHeld _)) shh_nil))) (And.intro rfl rfl)
   ·refine x_seq (by kernel_rfl) ?_
    refine x_region (by kernel_rfl) ?_
    refine w_run 5 [.cells ((cL cPrune_state) y50 ++ [rfv false p201 2 2]), .dead, rfb cHeld y203, .cells ([.ptr 0 0])] rfl (by kernel_rfl) ?_
    refine bind_elim hF (fun y250 hy250 hF => w_rslice (e := 41) (l := 2) (ex := false) (nl := p201.nl && p201.l.isEmpty) (b := y203) (sz := 2) (len := p201.l.length) hy250 (sortHeld_len hy203) (by kernel_rfl) (by kernel_rfl) (fun e249 => ?_))
    refine w_run 8 [.cells ((cL cPrune_state) y50 ++ [rfv false p201 2 2]), .dead, rfb cHeld y203, .cells ([.ptr 0 0])] rfl (by kernel_rfl) ?_
    refine w_end (by kernel_rfl) ?_
    refine then_n ?_
    refine go_same ?_
    refine x_block (by kernel_rfl) ?_
    refine x_loop (fun d fr H => ∃ (x277 : (Sl Int) × Int) (g263 : Nat) (g266 : Option Bool) (g267 : Bool), fr = [.any, .any, .ptr 3 0, .any, .any, .any, .any, .any, .any, .any, .any, .any, .any, .any, .any, .int .i64 (if 64 < (p201.l.length : Int) then 64 else (p201.l.length : Int)), ownv (cI .i64) 4 g263 1 x277.1, .any, .any, .any, .bool false, .any, .any, .any, .any, .any, .any, .bool false, .any, .any, .any, .any, .any, .any, junkB g43, .any, .any, .any, .any, .any, .any, .any, .any, .any, .any, .any, .any, .any, .any, .any, .any, .any, .any, .any, .any, .any, .any, .any, .any, .any, .any, .bool false, .any, .any, .any, .any, .any, .any, junkB g202, .any, .any, .any, .any, .any, .any, .any, .any, .any, .any, .any, .any, .any, .any, .any, .any, .any, .any, .any, .any, .any, .any, .any, .ref e249 (p201.nl && p201.l.isEmpty) 2 ((cutK none) * 2) y250.l.length 2, .int .i64 (y250.l.length : Int), .int .i64 x277.2, junkB g266, .any, .any, .any, .any, .any, .any, .any, .any, .any, .any, .any, .any, .any, .any, .any, .any, .any, .any, .any, .any] ∧ H = [.cells ((cL cPrune_state) y50 ++ [rfv false p201 2 2]), .dead, rfb cHeld y203, .cells ([.ptr 0 0]), .room g263 g267] ∧ loopN (prune_Book_Prune_B277 y50 p201 y203 y250) d x277 = some r) (by kernel_rfl) (fun fr H ⟨x277, g263, g266, g267, e1, e2, hF⟩ => loop_no hF) (fun d277 fr H ⟨x277, g263, g266, g267, e1, e2, hF⟩ => ?_) (VS.trans (VS.thaw (cI .i64) 16 1 ⟨true, true, []⟩ (by kernel_rfl) rfl (fun _ => rfl)) (VS.same2 83076715074235844612092038210289659 (by kernel_rfl) (by kernel_rfl))) ⟨(⟨true, true, []⟩, 0), 1, none, false, rfl, rfl, hF⟩
    subst e1 e2
    have hF := loop_in hF
    refine x_seq (by kernel_rfl) ?_
    refine x_region (by kernel_rfl) ?_
    refine w_run 1 [.cells ((cL cPrune_state) y50 ++ [rfv false p201 2 2]), .dead, rfb cHeld y203, .cells ([.ptr 0 0]), .room g263 g267] rfl (by kernel_rfl) ?_
    refine w_end (by kernel_rfl) ?_
    refine then_n ?_
    refine go_same ?_
    refine x_seq (by kernel_rfl) ?_
    refine ite_elim hF (fun hc1 hF => ?_) (fun hc1 hF => ?_)
    ·refine x_set 95 (b := true) (by kernel_rfl) hc1 ?_
     refine x_cond (b0 := true) (by kernel_rfl) (by kernel_rfl) ?_
     refine x_skip (.inl (by kernel_rfl)) ?_
     refine then_n ?_
     refine go_same ?_
     refine x_seq (by kernel_rfl) ?_
     refine x_block (by kernel_rfl) ?_
     refine x_seq (by kernel_rfl) ?_
     refine x_region (by kernel_rfl) ?_
     refine bind_elim hF (fun y280 hy280 hF => w_riaddr (t := 27) (e := 41) (l := 2) (ex := e249) (nl := (p201.nl && p201.l.isEmpty)) (kd := .i64) (k := (cutK none)) (sz := 2) (len := y250.l.length) (b := y250.l) hy280 (Nat.le_refl _) (by kernel_rfl) (by kernel_rfl) (by kernel_rfl) ?_)
     refine w_rload cHeld (l := 2) (t := 41) (sz := 2) (fo := 0) (j := ((cutK none) + x277.2.toNat)) y203 (v := .agg (cHeld y280)) (z := 2) (cut_at hy250 hy280) (by kernel_rfl) (by kernel_rfl) len_cHeld (by kernel_rfl) (by kernel_rfl) (by decide) (by decide) ?_
     refine w_run 4 [.cells ((cL cPrune_state) y50 ++ [rfv false p201 2 2]), .dead, rfb cHeld y203, .cells ([.ptr 0 0]), .room g263 g267, .cells (cHeld y280)] rfl (by kernel_rfl) ?_
     refine w_end (by kernel_rfl) ?_
     refine then_n ?_
     refine go_same ?_
     refine x_region (by kernel_rfl) ?_
     refine w_run 3 [.cells ((cL cPrune_state) y50 ++ [rfv false p201 2 2]), .dead, rfb cHeld y203, .cells ([.ptr 0 0]), .room g263 g267, .cells (cHeld y280)] rfl (by kernel_rfl) ?_
     refine w_frz (v := sl (cI .i64) (⟨false, true, [y280.Number]⟩ : Sl Int)) (by kernel_rfl) ?_
     refine bind_elim hF (fun y281 hy281 hF => w_app (cI .i64) (e := 3) (sz := 1) (l0 := 4) (real := g267) (ver := g263) (x := x277.1) (ys := (⟨false, true, [y280.Number]⟩ : Sl Int).l) hy281 (by kernel_rfl) (by decide) (gives_sl (x := (⟨false, true, [y280.Number]⟩ : Sl Int)) (by kernel_rfl) (fun _ => rfl)) (room_at (by kernel_rfl)) ?_)
     refine w_run 6 [.cells ((cL cPrune_state) y50 ++ [rfv false p201 2 2]), .dead, rfb cHeld y203, .cells ([.ptr 0 0]), .room (g263 + 1) (g267 || !((⟨false, true, [y280.Number]⟩ : Sl Int).l.length == 0)), .cells (cHeld y280)] rfl (by kernel_rfl) ?_
     refine w_end (by kernel_rfl) ?_
     refine block_n ?_
     refine then_n ?_
     refine go_same ?_
     refine x_region (by kernel_rfl) ?_
     refine w_run 2 [.cells ((cL cPrune_state) y50 ++ [rfv false p201 2 2]), .dead, rfb cHeld y203, .cells ([.ptr 0 0]), .room (g263 + 1) (g267 || !((⟨false, true, [y280.Number]⟩ : Sl Int).l.length == 0)), .cells (cHeld y280)] rfl (by kernel_rfl) ?_
     refine w_end (by kernel_rfl) ?_
     refine then_n ?_
     exact x_back (VS.shX [0, 1, 2, 3, 4] 83076715074235844612092038210289659 [34, 68] (by kernel_rfl) (by kernel_rfl) (by kernel_rfl) (by exact ⟨low_junk g43, low_junk g202, trivial⟩) (tights_at [16, 34, 68] (by kernel_rfl) (by exact ⟨(tight_own low_cI), (tight_junk g43), (tight_junk g202), trivial⟩)) (shh (b0 := .cells ((cL cPrune_state) y50 ++ [rfv false p201 2 2])) (by kernel_rfl) (shb_cells (by kernel_rfl) (by kernel_rfl) (tights_app (tights_lows ((low_cL low_cPrune_state) _)) (tights_cons rfl rfl))) (shh (b0 := .dead) (by kernel_rfl) (shb_dead (by kernel_rfl)) (shh (b0 := rfb cHeld y203) (by kernel_rfl) (NoRef.shb (noref_rfb low_cHeld _)) (shh (b0 := .cells ([.ptr 0 0])) (by kernel_rfl) (shb_cells (by kernel_rfl) (by kernel_rfl) (tights_cons rfl rfl)) (shh (b0 := .room (g263 + 1) (g267 || !((⟨false, true, [y280.Number]⟩ : Sl Int).l.length == 0))) (by kernel_rfl) shb_room shh_nil)))))) ⟨(y281, iAdd .i64 x277.2 1), (g263 + 1), (some true), (g267 || !((⟨false, true, [y280.Number]⟩ : Sl Int).l.length == 0)), rfl, rfl, hF⟩
    ·refine x_set 95 (b := false) (by kernel_rfl) hc1 ?_
     refine x_cond (b0 := false) (by kernel_rfl) (by kernel_rfl) ?_
     refine x_exit (by kernel_rfl) ?_
     refine then_e ?_
     refine then_e ?_
     refine block_e ?_
     refine then_n ?_
     exact x_to hJ10 (VS.same2 83076710122475687470570938613792763 (by kernel_rfl) (by kernel_rfl)) ⟨x277.1, g263, g267, rfl, rfl, hF⟩
  ·refine x_seq (by kernel_rfl) ?_
   refine x_region (by kernel_rfl) ?_
   refine w_run 3 [.cells ((cL cPrune_state) y50 ++ [rfv false a2 1 2]), rfb cHeld a2, .cells ([.ptr 0 0]), mpb (AV.int .i64) (AV.int .i64) y51, .cells ([.map 3])] rfl (by kernel_rfl) ?_
   refine w_end (by kernel_rfl) ?_
   refine then_n ?_
   refine go_same ?_
   refine x_block (by kernel_rfl) ?_
   refine x_loop (fun d fr H => ∃ (x384 : (Sl Held) × (Mp Int Int) × Int) (g331 : Option Bool) (g332 : Option Bool), fr = [.any, .any, .ptr 3 0, .any, .any, .any, .any, .any, .any, .any, .fn 27 [] [.ptr 4 0, .ptr 3 0], .any, .any, .any, .any, .any, .any, .any, .any, .any, .bool false, .any, .any, .any, .any, .any, .any, .bool false, .any, .any, .any, .any, .any, .any, junkB g43, .any, .any, .any, .any, .any, .any, .any, .any, .any, .any, .any, .any, .any, .any, .any, .any, .any, .any, .any, .any, .any, .any, .any, sl cPrune_state y44, .int .i64 (y44.l.length : Int), .int .i64 x384.2.2, junkB g331, .any, .any, .any, .any, .any, .any, junkB g332, .any, .any, .any, .any, .any, .any, .any, .any, .any, .any, .any, .any, .any, .any, .any, .any, .any, .any, .any, .any, .any, .any, .any, .any, .any, .any, .any, .any, .any, .any, .any, .any, .any, .any, .any, .any, .any, .any, .any, .any, .any, .any, .any, .any, .any, .any, .any] ∧ H = [.cells ((cL cPrune_state) y50 ++ [rfv false x384.1 2 2]), .dead, rfb cHeld x384.1, .cells ([.ptr 0 0]), .cells ([.map 5]), mpb (AV.int .i64) (AV.int .i64) x384.2.1] ∧ loopN (prune_Book_Prune_B384 y44 y50) d x384 = some r) (by kernel_rfl) (fun fr H ⟨x384, g331, g332, e1, e2, hF⟩ => loop_no hF) (fun d384 fr H ⟨x384, g331, g332, e1, e2, hF⟩ => ?_) (VS.trans (VS.move cHeld a2 1 [] [0] (by kernel_rfl) (by kernel_rfl)) (VS.shX [0, 1, 5, 2, 4, 3] 83076749736557240038875290890402811 [34] (by kernel_rfl) (by kernel_rfl) (by kernel_rfl) (by exact ⟨low_junk g43, trivial⟩) (tights_at [34, 58] (by kernel_rfl) (by exact ⟨(tight_junk g43), (tight_sl low_cPrune_state), trivial⟩)) (shh (b0 := .cells ((cL cPrune_state) y50 ++ [rfv false a2 5 2])) (by kernel_rfl) (shb_cells (by kernel_rfl) (by kernel_rfl) (tights_app (tights_lows ((low_cL low_cPrune_state) _)) (tights_cons rfl rfl))) (shh (b0 := .dead) (by kernel_rfl) (shb_dead (by kernel_rfl)) (shh (b0 := rfb cHeld a2) (by kernel_rfl) (NoRef.shb (noref_rfb low_cHeld _)) (shh (b0 := .cells ([.ptr 0 0])) (by kernel_rfl) (shb_cells (by kernel_rfl) (by kernel_rfl) (tights_cons rfl rfl)) (shh (b0 := .cells ([.map 3])) (by kernel_rfl) (shb_cells (by kernel_rfl) (by kernel_rfl) (tights_cons rfl rfl)) (shh (b0 := mpb (AV.int .i64) (AV.int .i64) y51) (by kernel_rfl) (NoRef.shb (noref_mpb (fun _ => rfl) (fun _ => rfl) _)) shh_nil)))))))) ⟨(a2, y51, 0), none, none, rfl, rfl, hF⟩
   subst e1 e2
   have hF := loop_in hF
   refine x_seq (by kernel_rfl) ?_
   refine x_region (by kernel_rfl) ?_
   refine w_run 1 [.cells ((cL cPrune_state) y50 ++ [rfv false x384.1 2 2]), .dead, rfb cHeld x384.1, .cells ([.ptr 0 0]), .cells ([.map 5]), mpb (AV.int .i64) (AV.int .i64) x384.2.1] rfl (by kernel_rfl) ?_
   refine w_end (by kernel_rfl) ?_
   refine then_n ?_
   refine go_same ?_
   refine x_seq (by kernel_rfl) ?_
   refine ite_elim hF (fun hc2 hF => ?_) (fun hc2 hF => ?_)
   ·refine x_set 61 (b := true) (by kernel_rfl) hc2 ?_
    refine x_cond (b0 := true) (by kernel_rfl) (by kernel_rfl) ?_
    refine x_skip (.inl (by kernel_rfl)) ?_
    refine then_n ?_
    refine go_same ?_
    refine x_join (fun fr H => ∃ (p407 : Sl Held) (p408 : Mp Int Int), fr = [.any, .any, .ptr 3 0, .any, .any, .any, .any, .any, .any, .any, .fn 27 [] [.ptr 4 0, .ptr 3 0], .any, .any, .any, .any, .any, .any, .any, .any, .any, .bool false, .any, .any, .any, .any, .any, .any, .bool false, .any, .any, .any, .any, .any, .any, junkB g43, .any, .any, .any, .any, .any, .any, .any, .any, .any, .any, .any, .any, .any, .any, .any, .any, .any, .any, .any, .any, .any, .any, .any, sl cPrune_state y44, .int .i64 (y44.l.length : Int), .int .i64 x384.2.2, .bool true, .any, .any, .any, .any, .any, .any, .bool false, .any, .any, .any, .any, .any, .any, .any, .any, .any, .any, .any, .any, .any, .any, .any, .any, .any, .any, .any, .any, .any, .any, .any, .any, .any, .any, .any, .any, .any, .any, .any, .any, .any, .any, .any, .any, .any, .any, .any, .any, .any, .any, .any, .any, .any, .any, .any] ∧ H = [.cells ((cL cPrune_state) y50 ++ [rfv false p407 2 2]), .dead, rfb cHeld p407, .cells ([.ptr 0 0]), .cells ([.map 5]), mpb (AV.int .i64) (AV.int .i64) p408] ∧ prune_Book_Prune_J13 (loopN (prune_Book_Prune_B384 y44 y50) d384) x384 p407 p408 = some r) (by kernel_rfl) (fun fr H ⟨p407, p408, e1, e2, hF⟩ => ?_) (fun hJ13 => ?_)
    ·subst e1 e2
     refine x_region (by kernel_rfl) ?_
     refine w_run 2 [.cells ((cL cPrune_state) y50 ++ [rfv false p407 2 2]), .dead, rfb cHeld p407, .cells ([.ptr 0 0]), .cells ([.map 5]), mpb (AV.int .i64) (AV.int .i64) p408] rfl (by kernel_rfl) ?_
     refine w_end (by kernel_rfl) ?_
     refine then_n ?_
     exact x_back (VS.same2 83076749736557240038875290890402811 (by kernel_rfl) (by kernel_rfl)) ⟨(p407, p408, iAdd .i64 x384.2.2 1), (some true), (some false), rfl, rfl, hF⟩
    ·refine x_block (by kernel_rfl) ?_
     refine x_seq (by kernel_rfl) ?_
     refine x_region (by kernel_rfl) ?_
     refine bind_elim hF (fun y409 hy409 hF => w_iaddr cPrune_state (sz := 2) hy409 (by kernel_rfl) (by decide) len_cPrune_state ?_)
     refine w_elem cPrune_state 0 (t := 63) (v := .agg (cPrune_state y409)) (sz := 2) (z := 2) hy409 (by kernel_rfl) (by kernel_rfl) len_cPrune_state (by decide) (by decide) ?_
     refine w_run 4 [.cells ((cL cPrune_state) y50 ++ [rfv false x384.1 2 2]), .dead, rfb cHeld x384.1, .cells ([.ptr 0 0]), .cells ([.map 5]), mpb (AV.int .i64) (AV.int .i64) x384.2.1, .cells (cPrune_state y409)] rfl (by kernel_rfl) ?_
     refine w_end (by kernel_rfl) ?_
     refine then_n ?_
     refine go_same ?_
     refine x_seq (by kernel_rfl) ?_
     refine x_region (by kernel_rfl) ?_
     refine w_run 4 [.cells ((cL cPrune_state) y50 ++ [rfv false x384.1 2 2]), .dead, rfb cHeld x384.1, .cells ([.ptr 0 0]), .cells ([.map 5]), mpb (AV.int .i64) (AV.int .i64) x384.2.1, .cells (cPrune_state y409)] rfl (by kernel_rfl) ?_
     refine w_end (by kernel_rfl) ?_
     refine then_n ?_
     refine go_same ?_
     refine x_block (by kernel_rfl) ?_
     refine x_loop (fun d fr H => ∃ (x426 : (Sl Held) × (Mp Int Int) × Int) (g417 : Option Bool), fr = [.any, .any, .ptr 3 0, .any, .any, .any, .any, .any, .any, .any, .fn 27 [] [.ptr 4 0, .ptr 3 0], .any, .any, .any, .any, .any, .any, .any, .any, .any, .bool false, .any, .any, .any, .any, .any, .any, .bool false, .any, .any, .any, .any, .any, .any, junkB g43, .any, .any, .any, .any, .any, .any, .any, .any, .any, .any, .any, .any, .any, .any, .any, .any, .any, .any, .any, .any, .any, .any, .any, sl cPrune_state y44, .int .i64 (y44.l.length : Int), .int .i64 x384.2.2, .bool true, .any, .any, .any, sl cHeld y409.l, .int .i64 (y409.l.l.length : Int), .int .i64 x426.2.2, junkB g417, .any, .any, .any, .any, .any, .any, .any, .any, .any, .any, .any, .any, .any, .any, .any, .any, .any, .any, .any, .any, .any, .any, .any, .any, .any, .any, .any, .any, .any, .any, .any, .any, .any, .any, .any, .any, .any, .any, .any, .any, .any, .any, .any, .any, .any, .any, .any] ∧ H = [.cells ((cL cPrune_state) y50 ++ [rfv false x426.1 2 2]), .dead, rfb cHeld x426.1, .cells ([.ptr 0 0]), .cells ([.map 5]), mpb (AV.int .i64) (AV.int .i64) x426.2.1] ∧ loopN (prune_Book_Prune_B426 y50 (loopN (prune_Book_Prune_B384 y44 y50) d384) x384 y409) d x426 = some r) (by kernel_rfl) (fun fr H ⟨x426, g417, e1, e2, hF⟩ => loop_no hF) (fun d426 fr H ⟨x426, g417, e1, e2, hF⟩ => ?_) (VS.shX [0, 1, 2, 3, 4, 5] 83076749736556684330710070390160379 [34, 68] (by kernel_rfl) (by kernel_rfl) (by kernel_rfl) (by exact ⟨low_junk g43, low_junk g332, trivial⟩) (tights_at [34, 58, 65, 68] (by kernel_rfl) (by exact ⟨(tight_junk g43), (tight_sl low_cPrune_state), (tight_sl low_cHeld), (tight_junk g332), trivial⟩)) (shh (b0 := .cells ((cL cPrune_state) y50 ++ [rfv false x384.1 2 2])) (by kernel_rfl) (shb_cells (by kernel_rfl) (by kernel_rfl) (tights_app (tights_lows ((low_cL low_cPrune_state) _)) (tights_cons rfl rfl))) (shh (b0 := .dead) (by kernel_rfl) (shb_dead (by kernel_rfl)) (shh (b0 := rfb cHeld x384.1) (by kernel_rfl) (NoRef.shb (noref_rfb low_cHeld _)) (shh (b0 := .cells ([.ptr 0 0])) (by kernel_rfl) (shb_cells (by kernel_rfl) (by kernel_rfl) (tights_cons rfl rfl)) (shh (b0 := .cells ([.map 5])) (by kernel_rfl) (shb_cells (by kernel_rfl) (by kernel_rfl) (tights_cons rfl rfl)) (shh (b0 := mpb (AV.int .i64) (AV.int .i64) x384.2.1) (by kernel_rfl) (NoRef.shb (noref_mpb (fun _ => rfl) (fun _ => rfl) _)) shh_nil))))))) ⟨(x384.1, x384.2.1, 0), g332, rfl, rfl, hF⟩
     subst e1 e2
     have hF := loop_in hF
     refine x_seq (by kernel_rfl) ?_
     refine x_region (by kernel_rfl) ?_
     refine w_run 1 [.cells ((cL cPrune_state) y50 ++ [rfv false x426.1 2 2]), .dead, rfb cHeld x426.1, .cells ([.ptr 0 0]), .cells ([.map 5]), mpb (AV.int .i64) (AV.int .i64) x426.2.1] rfl (by kernel_rfl) ?_
     refine w_end (by kernel_rfl) ?_
     refine then_n ?_
     refine go_same ?_
     refine x_seq (by kernel_rfl) ?_
     refine ite_elim hF (fun hc3 hF => ?_) (fun hc3 hF => ?_)
     ·refine x_set 68 (b := true) (by kernel_rfl) hc3 ?_
      refine x_cond (b0 := true) (by kernel_rfl) (by kernel_rfl) ?_
      refine x_skip (.inl (by kernel_rfl)) ?_
      refine then_n ?_
      refine go_same ?_
      refine x_seq (by kernel_rfl) ?_
      refine x_block (by kernel_rfl) ?_
      refine x_seq (by kernel_rfl) ?_
      refine x_region (by kernel_rfl) ?_
      refine bind_elim hF (fun y429 hy429 hF => w_iaddr cHeld (sz := 2) hy429 (by kernel_rfl) (by decide) len_cHeld ?_)
      refine w_elem cHeld 0 (t := 41) (v := .agg (cHeld y429)) (sz := 2) (z := 2) hy429 (by kernel_rfl) (by kernel_rfl) len_cHeld (by decide) (by decide) ?_
      refine w_run 4 [.cells ((cL cPrune_state) y50 ++ [rfv false x426.1 2 2]), .dead, rfb cHeld x426.1, .cells ([.ptr 0 0]), .cells ([.map 5]), mpb (AV.int .i64) (AV.int .i64) x426.2.1, .cells (cHeld y429)] rfl (by kernel_rfl) ?_
      refine w_end (by kernel_rfl) ?_
      refine then_n ?_
      refine go_same ?_
      refine x_region (by kernel_rfl) ?_
      refine w_run 2 [.cells ((cL cPrune_state) y50 ++ [rfv false x426.1 2 2]), .dead, rfb cHeld x426.1, .cells ([.ptr 0 0]), .cells ([.map 5]), mpb (AV.int .i64) (AV.int .i64) x426.2.1, .cells (cHeld y429)] rfl (by kernel_rfl) ?_
      refine bind_elim hF (fun y430 hy430 hF => w_ocall [4, 5, 3, 0, 2] [4, 5, 3, 0, 2, 7] (ga := [.agg (cHeld y429), .ptr 4 0, .ptr 3 0]) (as0 := [.agg (cHeld y429), .ptr 0 0, .ptr 2 0]) (h0 := [.cells ([.map 1]), mpb (AV.int .i64) (AV.int .i64) x426.2.1, .cells ([.ptr 3 0]), .cells ((cL cPrune_state) y50 ++ [rfv false x426.1 4 2]), rfb cHeld x426.1]) (h1 := [.cells ([.map 1]), mpb (AV.int .i64) (AV.int .i64) y430.1, .cells ([.ptr 3 0]), .cells ((cL cPrune_state) y50 ++ [rfv false y430.2 5 2]), .dead, rfb cHeld y430.2]) (h2 := [.cells ([.map 5]), mpb (AV.int .i64) (AV.int .i64) y430.1, .cells ([.ptr 0 0]), .cells ((cL cPrune_state) y50 ++ [rfv false y430.2 7 2]), .dead, rfb cHeld y430.2]) (H2 := [.cells ((cL cPrune_state) y50 ++ [rfv false y430.2 7 2]), .dead, .dead, .cells ([.ptr 0 0]), .cells ([.map 5]), mpb (AV.int .i64) (AV.int .i64) y430.1, .cells (cHeld y429), rfb cHeld y430.2]) (v0 := .tup []) (v := .tup []) (prune_Book_Prune_1_ev hy430) (by kernel_rfl) (by kernel_rfl) (by kernel_rfl) (tights_cons (tight_agg (tights_lows (low_cHeld _))) (tights_cons rfl (tights_cons rfl rfl))) (pl (b' := .cells ([.map 5])) (by kernel_rfl) (sb_cells (by kernel_rfl) (by kernel_rfl) (tights_cons rfl rfl)) (pl (b' := mpb (AV.int .i64) (AV.int .i64) x426.2.1) (by kernel_rfl) (sb_low (noref_mpb (fun _ => rfl) (fun _ => rfl) _)) (pl (b' := .cells ([.ptr 0 0])) (by kernel_rfl) (sb_cells (by kernel_rfl) (by kernel_rfl) (tights_cons rfl rfl)) (pl (b' := .cells ((cL cPrune_state) y50 ++ [rfv false x426.1 2 2])) (by kernel_rfl) (sb_cells (by kernel_rfl) (by kernel_rfl) (tights_app (tights_lows ((low_cL low_cPrune_state) _)) (tights_cons rfl rfl))) (pl (b' := rfb cHeld x426.1) (by kernel_rfl) (sb_low (noref_rfb low_cHeld _)) pl_nil))))) (by kernel_rfl) rfl (sbs (sb_cells (by kernel_rfl) (by kernel_rfl) (tights_cons rfl rfl)) (sbs (sb_low (noref_mpb (fun _ => rfl) (fun _ => rfl) _)) (sbs (sb_cells (by kernel_rfl) (by kernel_rfl) (tights_cons rfl rfl)) (sbs (sb_cells (by kernel_rfl) (by kernel_rfl) (tights_app (tights_lows ((low_cL low_cPrune_state) _)) (tights_cons rfl rfl))) (sbs sb_dead (sbs (sb_low (noref_rfb low_cHeld _)) sbs_nil)))))) (by kernel_rfl) (fun e => by cases e) ?_)
      refine w_end (by kernel_rfl) ?_
      refine block_n ?_
      refine then_n ?_
      refine go_same ?_
      refine x_region (by kernel_rfl) ?_
      refine w_run 2 [.cells ((cL cPrune_state) y50 ++ [rfv false y430.2 7 2]), .dead, .dead, .cells ([.ptr 0 0]), .cells ([.map 5]), mpb (AV.int .i64) (AV.int .i64) y430.1, .cells (cHeld y429), rfb cHeld y430.2] rfl (by kernel_rfl) ?_
      refine w_end (by kernel_rfl) ?_
      refine then_n ?_
      exact x_back (VS.shX [0, 1, 7, 3, 4, 5] 83076749736556979478615249742986235 [34] (by kernel_rfl) (by kernel_rfl) (by kernel_rfl) (by exact ⟨low_junk g43, trivial⟩) (tights_at [34, 58, 65] (by kernel_rfl) (by exact ⟨(tight_junk g43), (tight_sl low_cPrune_state), (tight_sl low_cHeld), trivial⟩)) (shh (b0 := .cells ((cL cPrune_state) y50 ++ [rfv false y430.2 7 2])) (by kernel_rfl) (shb_cells (by kernel_rfl) (by kernel_rfl) (tights_app (tights_lows ((low_cL low_cPrune_state) _)) (tights_cons rfl rfl))) (shh (b0 := .dead) (by kernel_rfl) (shb_dead (by kernel_rfl)) (shh (b0 := rfb cHeld y430.2) (by kernel_rfl) (NoRef.shb (noref_rfb low_cHeld _)) (shh (b0 := .cells ([.ptr 0 0])) (by kernel_rfl) (shb_cells (by kernel_rfl) (by kernel_rfl) (tights_cons rfl rfl)) (shh (b0 := .cells ([.map 5])) (by kernel_rfl) (shb_cells (by kernel_rfl) (by kernel_rfl) (tights_cons rfl rfl)) (shh (b0 := mpb (AV.int .i64) (AV.int .i64) y430.1) (by kernel_rfl) (NoRef.shb (noref_mpb (fun _ => rfl) (fun _ => rfl) _)) shh_nil))))))) ⟨(y430.2, y430.1, iAdd .i64 x426.2.2 1), (some true), rfl, rfl, hF⟩
     ·refine x_set 68 (b := false) (by kernel_rfl) hc3 ?_
      refine x_cond (b0 := false) (by kernel_rfl) (by kernel_rfl) ?_
      refine x_exit (by kernel_rfl) ?_
      refine then_e ?_
      refine then_e ?_
      refine block_e ?_
      refine block_n ?_
      refine then_n ?_
      exact x_to hJ13 (VS.same2 83076749736556942585127102323883003 (by kernel_rfl) (by kernel_rfl)) ⟨x426.1, x426.2.1, rfl, rfl, hF⟩
   ·refine x_set 61 (b := false) (by kernel_rfl) hc2 ?_
    refine x_cond (b0 := false) (by kernel_rfl) (by kernel_rfl) ?_
    refine x_exit (by kernel_rfl) ?_
    refine then_e ?_
    refine then_e ?_
    refine block_e ?_
    refine then_n ?_
    exact x_to hJ9 (VS.shX [0, 1, 2, 3] 83076749736556944602739735385866235 [34, 68] (by kernel_rfl) (by kernel_rfl) (by kernel_rfl) (by exact ⟨low_junk g43, low_junk g332, trivial⟩) (tights_at [34, 68] (by kernel_rfl) (by exact ⟨(tight_junk g43), (tight_junk g332), trivial⟩)) (shh (b0 := .cells ((cL cPrune_state) y50 ++ [rfv false x384.1 2 2])) (by kernel_rfl) (shb_cells (by kernel_rfl) (by kernel_rfl) (tights_app (tights_lows ((low_cL low_cPrune_state) _)) (tights_cons rfl rfl))) (shh (b0 := .dead) (by kernel_rfl) (shb_dead (by kernel_rfl)) (shh (b0 := rfb cHeld x384.1) (by kernel_rfl) (NoRef.shb (noref_rfb low_cHeld _)) (shh (b0 := .cells ([.ptr 0 0])) (by kernel_rfl) (shb_cells (by kernel_rfl) (by kernel_rfl) (tights_cons rfl rfl)) shh_nil))))) ⟨x384.1, g332, rfl, rfl, hF⟩
 ·refine x_seq (by kernel_rfl) ?_
  refine x_region (by kernel_rfl) ?_
  refine w_run 6 [.cells ((cL cPrune_state) a1 ++ [rfv false a2 1 2]), rfb cHeld a2, .cells ([.ptr 0 0])] rfl (by kernel_rfl) ?_
  refine w_end (by kernel_rfl) ?_
  refine then_n ?_
  refine go_same ?_
  refine x_block (by kernel_rfl) ?_
  refine x_loop (fun d fr H => ∃ (x453 : Int × Int) (g443 : Option Bool) (g444 : Option Bool), fr = [.any, .int .i64 a0, .ptr 2 0, .any, .any, .int .i64 x453.1, .any, .any, .any, .any, .any, .any, .any, .any, .any, .any, .any, .any, .any, .any, .bool false, .any, .any, .any, sl cPrune_state a1, .int .i64 (a1.l.length : Int), .int .i64 x453.2, junkB g443, .any, .any, .any, .any, .any, .any, junkB g444, .any, .any, .any, .any, .any, .any, .any, .any, .any, .any, .any, .any, .any, .any, .any, .any, .any, .any, .any, .any, .any, .any, .any, .any, .any, .any, .any, .any, .any, .any, .any, .any, .any, .any, .any, .any, .any, .any, .any, .any, .any, .any, .any, .any, .any, .any, .any, .any, .any, .any, .any, .any, .any, .any, .any, .any, .any, .any, .any, .any, .any, .any, .any, .any, .any, .any, .any, .any, .any, .any, .any, .any, .any, .any, .any, .any, .any, .any, .any, .any, .any] ∧ H = [.cells ((cL cPrune_state) a1 ++ [rfv false a2 1 2]), rfb cHeld a2, .cells ([.ptr 0 0])] ∧ loopN (prune_Book_Prune_B453 a0 a1 a2) d x453 = some r) (by kernel_rfl) (fun fr H ⟨x453, g443, g444, e1, e2, hF⟩ => loop_no hF) (fun d453 fr H ⟨x453, g443, g444, e1, e2, hF⟩ => ?_) (VS.same2 83076749736557242056487941149032409 (by kernel_rfl) (by kernel_rfl)) ⟨(0, 0), none, none, rfl, rfl, hF⟩
  subst e1 e2
  have hF := loop_in hF
  refine x_seq (by kernel_rfl) ?_
  refine x_region (by kernel_rfl) ?_
  refine w_run 1 [.cells ((cL cPrune_state) a1 ++ [rfv false a2 1 2]), rfb cHeld a2, .cells ([.ptr 0 0])] rfl (by kernel_rfl) ?_
  refine w_end (by kernel_rfl) ?_
  refine then_n ?_
  refine go_same ?_
  refine x_seq (by kernel_rfl) ?_
  refine ite_elim hF (fun hc4 hF => ?_) (fun hc4 hF => ?_)
  ·refine x_set 27 (b := true) (by kernel_rfl) hc4 ?_
   refine x_cond (b0 := true) (by kernel_rfl) (by kernel_rfl) ?_
   refine x_skip (.inl (by kernel_rfl)) ?_
   refine then_n ?_
   refine go_same ?_
   refine x_join (fun fr H => ∃ (p455 : Int) (g456 : Option Bool), fr = [.any, .int .i64 a0, .ptr 2 0, .any, .any, .int .i64 p455, .any, .any, .any, .any, .any, .any, .any, .any, .any, .any, .any, .any, .any, .any, .bool false, .any, .any, .any, sl cPrune_state a1, .int .i64 (a1.l.length : Int), .int .i64 x453.2, .bool true, .any, .any, .any, .any, .any, .any, junkB g456, .any, .any, .any, .any, .any, .any, .any, .any, .any, .any, .any, .any, .any, .any, .any, .any, .any, .any, .any, .any, .any, .any, .any, .any, .any, .any, .any, .any, .any, .any, .any, .any, .any, .any, .any, .any, .any, .any, .any, .any, .any, .any, .any, .any, .any, .any, .any, .any, .any, .any, .any, .any, .any, .any, .any, .any, .any, .any, .any, .any, .any, .any, .any, .any, .any, .any, .any, .any, .any, .any, .any, .any, .any, .any, .any, .any, .any, .any, .any, .any, .any] ∧ H = [.cells ((cL cPrune_state) a1 ++ [rfv false a2 1 2]), rfb cHeld a2, .cells ([.ptr 0 0])] ∧ prune_Book_Prune_J17 (loopN (prune_Book_Prune_B453 a0 a1 a2) d453) x453 p455 = some r) (by kernel_rfl) (fun fr H ⟨p455, g456, e1, e2, hF⟩ => ?_) (fun hJ17 => ?_)
   ·subst e1 e2
    refine x_region (by kernel_rfl) ?_
    refine w_run 2 [.cells ((cL cPrune_state) a1 ++ [rfv false a2 1 2]), rfb cHeld a2, .cells ([.ptr 0 0])] rfl (by kernel_rfl) ?_
    refine w_end (by kernel_rfl) ?_
    refine then_n ?_
    exact x_back (VS.same2 83076749736557242056487923969163225 (by kernel_rfl) (by kernel_rfl)) ⟨(p455, iAdd .i64 x453.2 1), (some true), g456, rfl, rfl, hF⟩
   ·refine x_block (by kernel_rfl) ?_
    refine x_seq (by kernel_rfl) ?_
    refine x_region (by kernel_rfl) ?_
    refine w_run 1 [.cells ((cL cPrune_state) a1 ++ [rfv false a2 1 2]), rfb cHeld a2, .cells ([.ptr 0 0])] rfl (by kernel_rfl) ?_
    refine bind_elim hF (fun y457 hy457 hF => w_iaddr cPrune_state (sz := 2) hy457 (by kernel_rfl) (by decide) len_cPrune_state ?_)
    refine w_elem cPrune_state 0 (t := 63) (v := .agg (cPrune_state y457)) (sz := 2) (z := 2) hy457 (by kernel_rfl) (by kernel_rfl) len_cPrune_state (by decide) (by decide) ?_
    refine w_run 6 [.cells ((cL cPrune_state) a1 ++ [rfv false a2 1 2]), rfb cHeld a2, .cells ([.ptr 0 0]), .cells (cPrune_state y457)] rfl (by kernel_rfl) ?_
    refine w_end (by kernel_rfl) ?_
    refine then_n ?_
    refine go_same ?_
    refine x_seq (by kernel_rfl) ?_
    refine x_region (by kernel_rfl) ?_
    refine w_run 4 [.cells ((cL cPrune_state) a1 ++ [rfv false a2 1 2]), rfb cHeld a2, .cells ([.ptr 0 0]), .cells (cPrune_state y457)] rfl (by kernel_rfl) ?_
    refine w_end (by kernel_rfl) ?_
    refine then_n ?_
    refine go_same ?_
    refine ite_elim hF (fun hc5 hF => ?_) (fun hc5 hF => ?_)
    ·refine x_set 34 (b := true) (by kernel_rfl) hc5 ?_
     refine x_cond (b0 := true) (by kernel_rfl) (by kernel_rfl) ?_
     refine x_region (by kernel_rfl) ?_
     refine w_run 2 [.cells ((cL cPrune_state) a1 ++ [rfv false a2 1 2]), rfb cHeld a2, .cells ([.ptr 0 0]), .cells (cPrune_state y457)] rfl (by kernel_rfl) ?_
     refine w_end (by kernel_rfl) ?_
     refine block_n ?_
     refine then_n ?_
     exact x_to hJ17 (VS.sh [0, 1, 2] 83076749736557242056487941014814681 (by kernel_rfl) (by kernel_rfl) (by kernel_rfl) (tights_at [24] (by kernel_rfl) (by exact ⟨(tight_sl low_cPrune_state), trivial⟩)) (shh (b0 := .cells ((cL cPrune_state) a1 ++ [rfv false a2 1 2])) (by kernel_rfl) (shb_cells (by kernel_rfl) (by kernel_rfl) (tights_app (tights_lows ((low_cL low_cPrune_state) _)) (tights_cons rfl rfl))) (shh (b0 := rfb cHeld a2) (by kernel_rfl) (NoRef.shb (noref_rfb low_cHeld _)) (shh (b0 := .cells ([.ptr 0 0])) (by kernel_rfl) (shb_cells (by kernel_rfl) (by kernel_rfl) (tights_cons rfl rfl)) shh_nil)))) ⟨x453.2, (some true), rfl, rfl, hF⟩
    ·refine x_set 34 (b := false) (by kernel_rfl) hc5 ?_
     refine x_cond (b0 := false) (by kernel_rfl) (by kernel_rfl) ?_
     refine x_skip (.inl (by kernel_rfl)) ?_
     refine block_n ?_
     refine then_n ?_
     exact x_to hJ17 (VS.sh [0, 1, 2] 83076749736557242056487941014814681 (by kernel_rfl) (by kernel_rfl) (by kernel_rfl) (tights_at [24] (by kernel_rfl) (by exact ⟨(tight_sl low_cPrune_state), trivial⟩)) (shh (b0 := .cells ((cL cPrune_state) a1 ++ [rfv false a2 1 2])) (by kernel_rfl) (shb_cells (by kernel_rfl) (by kernel_rfl) (tights_app (tights_lows ((low_cL low_cPrune_state) _)) (tights_cons rfl rfl))) (shh (b0 := rfb cHeld a2) (by kernel_rfl) (NoRef.shb (noref_rfb low_cHeld _)) (shh (b0 := .cells ([.ptr 0 0])) (by kernel_rfl) (shb_cells (by kernel_rfl) (by kernel_rfl) (tights_cons rfl rfl)) shh_nil)))) ⟨x453.1, (some false), rfl, rfl, hF⟩
  ·refine x_set 27 (b := false) (by kernel_rfl) hc4 ?_
   refine x_cond (b0 := false) (by kernel_rfl) (by kernel_rfl) ?_
   refine x_exit (by kernel_rfl) ?_
   refine then_e ?_
   refine then_e ?_
   refine block_e ?_
   refine then_n ?_
   exact x_to hJ5 (VS.same2 83076749736557242056487923952386011 (by kernel_rfl) (by kernel_rfl)) ⟨x453.1, g444, rfl, rfl, hF⟩
def r24_in_J1  : Option (Int × Bool) :=
 some (0, false)
def r24_in_B501 (a0 : Sl Held) (a1 : Int) (k501 : Int → Option (Int × Bool)) (x501 : Int) : Option (Int × Bool) :=
 if iLt x501 (a0.l.length : Int) = true then (idxL a0.l x501).bind fun y504 => if (y504.Number == a1) = true then (idxL a0.l x501).bind fun y505 => some (y505.Size, true) else k501 (iAdd .i64 x501 1) else r24_in_J1
def r24_in (a0 : Sl Held) (a1 : Int) : Option (Int × Bool) :=
 loopN (r24_in_B501 a0 a1) FUEL 0
theorem r24_in_ev {a0 : Sl Held} {a1 : Int} {r : Int × Bool} (hF : r24_in a0 a1 = some r) : EvCall Try.prog T G0 45 [sl cHeld a0, .int .i64 a1] [] (fun v H' => v = .tup [.int .i64 r.1, .bool r.2] ∧ H' = []) := by
 refine x_call Try.func45 (by kernel_rfl) (by kernel_rfl) rfl ?_
 refine x_seq (by kernel_rfl) ?_
 refine x_region (by kernel_rfl) ?_
 refine w_run 2 [] rfl (by kernel_rfl) ?_
 refine w_end (by kernel_rfl) ?_
 refine then_n ?_
 refine go_same ?_
 refine x_join (fun fr H => ∃ (g486 : Option Bool), fr = [.any, .any, .any, .any, .any, .bool false, .any, .any, .any, .any, .bool false, .any, .any, .any, .any, .any, .any, .any, .any, junkB g486, .any, .any, .any, .any, .any] ∧ H = [] ∧ r24_in_J1 = some r) (by kernel_rfl) (fun fr H ⟨g486, e1, e2, hF⟩ => ?_) (fun hJ1 => ?_)
 ·subst e1 e2
  refine x_seq (by kernel_rfl) ?_
  refine x_region (by kernel_rfl) ?_
  refine w_run 2 [] rfl (by kernel_rfl) ?_
  refine w_end (by kernel_rfl) ?_
  refine then_n ?_
  refine go_same ?_
  refine x_ret (by kernel_rfl) ?_
  have e := Option.some.inj hF
  subst e
  exact fin_end (.inl rfl) (by kernel_rfl) (by kernel_rfl) (Nat.zero_le _) (low_tup (lows_cons rfl (lows_cons rfl rfl))) (by kernel_rfl) ⟨rfl, rfl⟩
 ·refine x_seq (by kernel_rfl) ?_
  refine x_region (by kernel_rfl) ?_
  refine w_run 1 [] rfl (by kernel_rfl) ?_
  refine w_end (by kernel_rfl) ?_
  refine then_n ?_
  refine go_same ?_
  refine x_block (by kernel_rfl) ?_
  refine x_loop (fun d fr H => ∃ (x501 : Int) (g492 : Option Bool) (g493 : Option Bool), fr = [sl cHeld a0, .int .i64 a1, .any, .any, .any, .bool false, .int .i64 x501, .any, .any, .any, junkB g492, .any, .any, .any, .any, .any, .any, .any, .any, junkB g493, .any, .any, .any, .any, .any] ∧ H = [] ∧ loopN (r24_in_B501 a0 a1) d x501 = some r) (by kernel_rfl) (fun fr H ⟨x501, g492, g493, e1, e2, hF⟩ => loop_no hF) (fun d501 fr H ⟨x501, g492, g493, e1, e2, hF⟩ => ?_) (VS.same2 33554332 (by kernel_rfl) (by kernel_rfl)) ⟨0, none, none, rfl, rfl, hF⟩
  subst e1 e2
  have hF := loop_in hF
  refine x_seq (by kernel_rfl) ?_
  refine x_seq (by kernel_rfl) ?_
  refine x_region (by kernel_rfl) ?_
  refine w_run 4 [] rfl (by kernel_rfl) ?_
  refine w_end (by kernel_rfl) ?_
  refine then_n ?_
  refine go_same ?_
  refine ite_elim hF (fun hc1 hF => ?_) (fun hc1 hF => ?_)
  ·refine x_set 10 (b := true) (by kernel_rfl) hc1 ?_
   refine x_cond (b0 := true) (by kernel_rfl) (by kernel_rfl) ?_
   refine x_skip (.inl (by kernel_rfl)) ?_
   refine then_n ?_
   refine go_same ?_
   refine x_seq (by kernel_rfl) ?_
   refine x_block (by kernel_rfl) ?_
   refine x_seq (by kernel_rfl) ?_
   refine x_region (by kernel_rfl) ?_
   refine w_run 2 [] rfl (by kernel_rfl) ?_
   refine bind_elim hF (fun y504 hy504 hF => w_iaddr cHeld (sz := 2) hy504 (by kernel_rfl) (by decide) len_cHeld ?_)
   refine w_run 4 [] rfl (by kernel_rfl) ?_
   refine w_elem cHeld 0 (t := 3) (v := .int .i64 y504.Number) (sz := 2) (z := 1) hy504 (by kernel_rfl) (by kernel_rfl) len_cHeld (by decide) (by decide) ?_
   refine w_run 7 [] rfl (by kernel_rfl) ?_
   refine w_end (by kernel_rfl) ?_
   refine then_n ?_
   refine go_same ?_
   refine ite_elim hF (fun hc2 hF => ?_) (fun hc2 hF => ?_)
   ·refine x_set 19 (b := true) (by kernel_rfl) hc2 ?_
    refine x_cond (b0 := true) (by kernel_rfl) (by kernel_rfl) ?_
    refine x_seq (by kernel_rfl) ?_
    refine x_region (by kernel_rfl) ?_
    refine w_run 2 [] rfl (by kernel_rfl) ?_
    refine bind_elim hF (fun y505 hy505 hF => w_iaddr cHeld (sz := 2) hy505 (by kernel_rfl) (by decide) len_cHeld ?_)
    refine w_run 4 [] rfl (by kernel_rfl) ?_
    refine w_elem cHeld 1 (t := 3) (v := .int .i64 y505.Size) (sz := 2) (z := 1) hy505 (by kernel_rfl) (by kernel_rfl) len_cHeld (by decide) (by decide) ?_
    refine w_run 7 [] rfl (by kernel_rfl) ?_
    refine w_end (by kernel_rfl) ?_
    refine then_n ?_
    refine go_same ?_
    refine x_ret (by kernel_rfl) ?_
    refine block_r ?_
    refine then_r ?_
    refine then_r ?_
    refine block_r ?_
    refine then_r ?_
    have e := Option.some.inj hF
    subst e
    exact fin_end (.inl rfl) (by kernel_rfl) (by kernel_rfl) (Nat.zero_le _) (low_tup (lows_cons rfl (lows_cons rfl rfl))) (by kernel_rfl) ⟨rfl, rfl⟩
   ·refine x_set 19 (b := false) (by kernel_rfl) hc2 ?_
    refine x_cond (b0 := false) (by kernel_rfl) (by kernel_rfl) ?_
    refine x_skip (.inl (by kernel_rfl)) ?_
    refine block_n ?_
    refine then_n ?_
    refine go_same ?_
    refine x_region (by kernel_rfl) ?_
    refine w_run 3 [] rfl (by kernel_rfl) ?_
    refine w_end (by kernel_rfl) ?_
    refine then_n ?_
    exact x_back (VS.same2 33554332 (by kernel_rfl) (by kernel_rfl)) ⟨iAdd .i64 x501 1, (some true), (some false), rfl, rfl, hF⟩
  ·refine x_set 10 (b := false) (by kernel_rfl) hc1 ?_
   refine x_cond (b0 := false) (by kernel_rfl) (by kernel_rfl) ?_
   refine x_exit (by kernel_rfl) ?_
   refine then_e ?_
   refine then_e ?_
   refine block_e ?_
   refine then_n ?_
   exact x_to hJ1 (VS.same2 33029087 (by kernel_rfl) (by kernel_rfl)) ⟨g493, rfl, rfl, hF⟩
def r24_Book_Has_J1  : Option Bool :=
 some false
def r24_Book_Has_B510 (a0 : Int) (a1 : Sl Affidavitref24_State) (k510 : Int → Option Bool) (x510 : Int) : Option Bool :=
 if iLt x510 (a1.l.length : Int) = true then (idxL a1.l x510).bind fun y513 => (r24_in y513.L a0).bind fun y514 => if y514.2 = true then some true else k510 (iAdd .i64 x510 1) else r24_Book_Has_J1
def r24_Book_Has (a0 : Int) (a1 : Sl Affidavitref24_State) (a2 : Sl Held) : Option Bool :=
 loopN (r24_Book_Has_B510 a0 a1) FUEL 0
theorem r24_Book_Has_ev {a0 : Int} {a1 : Sl Affidavitref24_State} {a2 : Sl Held} {r : Bool} (hF : r24_Book_Has a0 a1 a2 = some r) : EvCall Try.prog T G0 30 [.ptr 0 0, .int .i64 a0] [.cells ((cL cAffidavitref24_State) a1 ++ (cL cHeld) a2)] (fun v H' => v = .bool r ∧ H' = [.cells ((cL cAffidavitref24_State) a1 ++ (cL cHeld) a2)]) := by
 refine x_call Try.func30 (by kernel_rfl) (by kernel_rfl) rfl ?_
 refine x_seq (by kernel_rfl) ?_
 refine x_region (by kernel_rfl) ?_
 refine w_run 1 [.cells ((cL cAffidavitref24_State) a1 ++ (cL cHeld) a2)] rfl (by kernel_rfl) ?_
 refine w_end (by kernel_rfl) ?_
 refine then_n ?_
 refine go_same ?_
 refine x_join (fun fr H => ∃ (g489 : Option Bool) (g490 : Option Bool) (g491 : Option Bool), fr = [.any, .any, .any, .any, .bool false, .any, .any, junkB g489, .any, .any, .any, .any, .any, .any, .bool false, .any, .any, .any, .any, .any, .any, .any, .any, .any, .any, .any, .any, .any, .any, junkB g490, junkB g491] ∧ H = [.cells ((cL cAffidavitref24_State) a1 ++ (cL cHeld) a2)] ∧ r24_Book_Has_J1 = some r) (by kernel_rfl) (fun fr H ⟨g489, g490, g491, e1, e2, hF⟩ => ?_) (fun hJ1 => ?_)
 ·subst e1 e2
  refine x_seq (by kernel_rfl) ?_
  refine x_region (by kernel_rfl) ?_
  refine w_run 1 [.cells ((cL cAffidavitref24_State) a1 ++ (cL cHeld) a2)] rfl (by kernel_rfl) ?_
  refine w_end (by kernel_rfl) ?_
  refine then_n ?_
  refine go_same ?_
  refine x_ret (by kernel_rfl) ?_
  have e := Option.some.inj hF
  subst e
  exact fin_sh [0] (.inl rfl) (by kernel_rfl) (by kernel_rfl) (by kernel_rfl) (by kernel_rfl) rfl (shh (b0 := .cells ((cL cAffidavitref24_State) a1 ++ (cL cHeld) a2)) (by kernel_rfl) (shb_cells (by kernel_rfl) (by kernel_rfl) (tights_app (tights_lows ((low_cL low_cAffidavitref24_State) _)) (tights_lows ((low_cL low_cHeld) _)))) shh_nil) (And.intro rfl rfl)
 ·refine x_seq (by kernel_rfl) ?_
  refine x_region (by kernel_rfl) ?_
  refine w_run 1 [.cells ((cL cAffidavitref24_State) a1 ++ (cL cHeld) a2)] rfl (by kernel_rfl) ?_
  refine w_end (by kernel_rfl) ?_
  refine then_n ?_
  refine go_same ?_
  refine x_block (by kernel_rfl) ?_
  refine x_loop (fun d fr H => ∃ (x510 : Int) (g497 : Option Bool) (g498 : Option Bool) (g499 : Option Bool) (g500 : Option Bool), fr = [.ptr 0 0, .int .i64 a0, .any, .any, .bool false, .int .i64 x510, .any, junkB g497, .any, .any, .any, .any, .any, .any, junkB g498, .any, .any, .any, .any, .any, .any, .any, .any, .any, .any, .any, .any, .any, .any, junkB g499, junkB g500] ∧ H = [.cells ((cL cAffidavitref24_State) a1 ++ (cL cHeld) a2)] ∧ loopN (r24_Book_Has_B510 a0 a1) d x510 = some r) (by kernel_rfl) (fun fr H ⟨x510, g497, g498, g499, g500, e1, e2, hF⟩ => loop_no hF) (fun d510 fr H ⟨x510, g497, g498, g499, g500, e1, e2, hF⟩ => ?_) (VS.same2 2147483596 (by kernel_rfl) (by kernel_rfl)) ⟨0, none, none, none, none, rfl, rfl, hF⟩
  subst e1 e2
  have hF := loop_in hF
  refine x_seq (by kernel_rfl) ?_
  refine x_seq (by kernel_rfl) ?_
  refine x_region (by kernel_rfl) ?_
  refine w_run 7 [.cells ((cL cAffidavitref24_State) a1 ++ (cL cHeld) a2)] rfl (by kernel_rfl) ?_
  refine w_end (by kernel_rfl) ?_
  refine then_n ?_
  refine go_same ?_
  refine ite_elim hF (fun hc1 hF => ?_) (fun hc1 hF => ?_)
  ·refine x_set 14 (b := true) (by kernel_rfl) hc1 ?_
   refine x_cond (b0 := true) (by kernel_rfl) (by kernel_rfl) ?_
   refine x_skip (.inl (by kernel_rfl)) ?_
   refine then_n ?_
   refine go_same ?_
   refine x_seq (by kernel_rfl) ?_
   refine x_block (by kernel_rfl) ?_
   refine x_seq (by kernel_rfl) ?_
   refine x_region (by kernel_rfl) ?_
   refine w_run 5 [.cells ((cL cAffidavitref24_State) a1 ++ (cL cHeld) a2)] rfl (by kernel_rfl) ?_
   refine bind_elim hF (fun y513 hy513 hF => w_iaddr cAffidavitref24_State (sz := 2) hy513 (by kernel_rfl) (by decide) len_cAffidavitref24_State ?_)
   refine w_run 7 [.cells ((cL cAffidavitref24_State) a1 ++ (cL cHeld) a2)] rfl (by kernel_rfl) ?_
   refine w_elem cAffidavitref24_State 1 (t := 27) (v := sl cHeld y513.L) (sz := 2) (z := 1) hy513 (by kernel_rfl) (by kernel_rfl) len_cAffidavitref24_State (by decide) (by decide) ?_
   refine w_run 9 [.cells ((cL cAffidavitref24_State) a1 ++ (cL cHeld) a2)] rfl (by kernel_rfl) ?_
   refine bind_elim hF (fun y514 hy514 hF => w_pcallW (r24_in_ev hy514) (by kernel_rfl) (lows_cons (low_sl low_cHeld) (lows_cons rfl rfl)) (low_tup (lows_cons rfl (lows_cons rfl rfl))) ?_)
   refine w_run 15 [.cells ((cL cAffidavitref24_State) a1 ++ (cL cHeld) a2)] rfl (by kernel_rfl) ?_
   refine w_end (by kernel_rfl) ?_
   refine then_n ?_
   refine go_same ?_
   refine x_seq (by kernel_rfl) ?_
   refine x_region (by kernel_rfl) ?_
   refine w_run 1 [.cells ((cL cAffidavitref24_State) a1 ++ (cL cHeld) a2)] rfl (by kernel_rfl) ?_
   refine w_end (by kernel_rfl) ?_
   refine then_n ?_
   refine go_same ?_
   refine ite_elim hF (fun hc2 hF => ?_) (fun hc2 hF => ?_)
   ·refine x_set 30 (b := true) (by kernel_rfl) hc2 ?_
    refine x_cond (b0 := true) (by kernel_rfl) (by kernel_rfl) ?_
    refine x_seq (by kernel_rfl) ?_
    refine x_region (by kernel_rfl) ?_
    refine w_run 1 [.cells ((cL cAffidavitref24_State) a1 ++ (cL cHeld) a2)] rfl (by kernel_rfl) ?_
    refine w_end (by kernel_rfl) ?_
    refine then_n ?_
    refine go_same ?_
    refine x_ret (by kernel_rfl) ?_
    refine block_r ?_
    refine then_r ?_
    refine then_r ?_
    refine block_r ?_
    refine then_r ?_
    have e := Option.some.inj hF
    subst e
    exact fin_sh [0] (.inl rfl) (by kernel_rfl) (by kernel_rfl) (by kernel_rfl) (by kernel_rfl) rfl (shh (b0 := .cells ((cL cAffidavitref24_State) a1 ++ (cL cHeld) a2)) (by kernel_rfl) (shb_cells (by kernel_rfl) (by kernel_rfl) (tights_app (tights_lows ((low_cL low_cAffidavitref24_State) _)) (tights_lows ((low_cL low_cHeld) _)))) shh_nil) (And.intro rfl rfl)
   ·refine x_set 30 (b := false) (by kernel_rfl) hc2 ?_
    refine x_cond (b0 := false) (by kernel_rfl) (by kernel_rfl) ?_
    refine x_skip (.inl (by kernel_rfl)) ?_
    refine block_n ?_
    refine then_n ?_
    refine go_same ?_
    refine x_region (by kernel_rfl) ?_
    refine w_run 3 [.cells ((cL cAffidavitref24_State) a1 ++ (cL cHeld) a2)] rfl (by kernel_rfl) ?_
    refine w_end (by kernel_rfl) ?_
    refine then_n ?_
    exact x_back (VS.same2 2147483596 (by kernel_rfl) (by kernel_rfl)) ⟨iAdd .i64 x510 1, (some y514.2), (some true), (some y514.2), (some false), rfl, rfl, hF⟩
  ·refine x_set 14 (b := false) (by kernel_rfl) hc1 ?_
   refine x_cond (b0 := false) (by kernel_rfl) (by kernel_rfl) ?_
   refine x_exit (by kernel_rfl) ?_
   refine then_e ?_
   refine then_e ?_
   refine block_e ?_
   refine then_n ?_
   exact x_to hJ1 (VS.same2 536854383 (by kernel_rfl) (by kernel_rfl)) ⟨g497, g499, g500, rfl, rfl, hF⟩
def r24_put_J2 (a0 : Sl Held) (a1 : Held) (p552 : Int) : Option (Sl Held) :=
 (cutL a0 none (some p552) none).bind fun y572 => (cutL a0 (some p552) none none).bind fun y573 => (appL 16 (⟨false, true, []⟩ : Sl Held) y572.l).bind fun y574 => (appL 16 y574 (⟨false, true, [a1]⟩ : Sl Held).l).bind fun y575 => (appL 16 y575 y573.l).bind fun y576 => some y576.weak
def r24_put_J1 (a0 : Sl Held) (a1 : Held) (p552 : Int) : Option (Sl Held) :=
 if iLt p552 (a0.l.length : Int) = true then (idxL a0.l p552).bind fun y580 => if (y580.Number == a1.Number) = true then some a0 else r24_put_J2 a0 a1 p552 else r24_put_J2 a0 a1 p552
def r24_put_B607 (a0 : Sl Held) (a1 : Held) (k607 : Int → Option (Sl Held)) (x607 : Int) : Option (Sl Held) :=
 if iLt x607 (a0.l.length : Int) = true then (idxL a0.l x607).bind fun y615 => if iLt y615.Number a1.Number = true then k607 (iAdd .i64 x607 1) else r24_put_J1 a0 a1 x607 else r24_put_J1 a0 a1 x607
def r24_put (a0 : Sl Held) (a1 : Held) : Option (Sl Held) :=
 loopN (r24_put_B607 a0 a1) FUEL 0
theorem r24_put_ev {a0 : Sl Held} {a1 : Held} {r : (Sl Held)} (hF : r24_put a0 a1 = some r) : EvCall Try.prog T G0 31 [sl cHeld a0, .agg (cHeld a1)] [] (fun v H' => v = sl cHeld r ∧ H' = []) := by
 refine x_call Try.func31 (by kernel_rfl) (by kernel_rfl) rfl ?_
 refine x_seq (by kernel_rfl) ?_
 refine x_region (by kernel_rfl) ?_
 refine w_run 2 [.cells (cHeld a1)] rfl (by kernel_rfl) ?_
 refine w_end (by kernel_rfl) ?_
 refine then_n ?_
 refine go_same ?_
 refine x_seq (by kernel_rfl) ?_
 refine x_region (by kernel_rfl) ?_
 refine w_run 1 [.cells (cHeld a1)] rfl (by kernel_rfl) ?_
 refine w_end (by kernel_rfl) ?_
 refine then_n ?_
 refine go_same ?_
 refine x_join (fun fr H => ∃ (p552 : Int) (g553 : Option Bool) (g554 : Option Bool) (g555 : Option Bool), fr = [sl cHeld a0, .any, .any, .ptr 0 0, .any, .int .i64 p552, .any, .any, .any, junkB g553, junkB g554, .any, .any, .any, .any, .any, .any, .any, junkB g555, .bool false, .any, .any, .any, .any, .any, .any, .any, .any, .any, .any, .any, .any, .any, .any, .any, .any, .any, .any, .any, .any, .any, .any, .any, .any, .any, .any, .any, .any, .any] ∧ H = [.cells (cHeld a1)] ∧ r24_put_J1 a0 a1 p552 = some r) (by kernel_rfl) (fun fr H ⟨p552, g553, g554, g555, e1, e2, hF⟩ => ?_) (fun hJ1 => ?_)
 ·subst e1 e2
  refine x_join (fun fr H => ∃ (g560 : Option Bool) (g561 : Option Bool), fr = [sl cHeld a0, .any, .any, .ptr 0 0, .any, .int .i64 p552, .any, .any, .any, junkB g553, junkB g554, .any, .any, .any, .any, .any, .any, .any, junkB g555, .bool false, .any, .any, .any, .any, .any, .bool (iLt p552 (a0.l.length : Int)), junkB g560, .any, .any, .any, .any, .any, .any, .any, junkB g561, .bool false, .any, .any, .any, .any, .any, .any, .any, .any, .any, .any, .any, .any, .any] ∧ H = [.cells (cHeld a1)] ∧ r24_put_J2 a0 a1 p552 = some r) (by kernel_rfl) (fun fr H ⟨g560, g561, e1, e2, hF⟩ => ?_) (fun hJ2 => ?_)
  ·subst e1 e2
   refine x_seq (by kernel_rfl) ?_
   refine x_rows 0 5999 [⟨4, [], [5, 8, 9, 10], [6], [5]⟩, ⟨7, [], [8, 9, 10], [], []⟩, ⟨11, [12], [12], [], []⟩] call_ends callMono (by kernel_rfl) (by kernel_rfl) ?_
   refine w_frz (v := sl cHeld (⟨false, true, []⟩ : Sl Held)) (by kernel_rfl) ?_
   refine w_pure 3 rfl (by kernel_rfl) ?_
   refine bind_elim hF (fun y572 hy572 hF => w_slice cHeld (sz := 2) hy572 (by kernel_rfl) len_cHeld (fun e => by cases e) ?_)
   refine w_pure 5 rfl (by kernel_rfl) ?_
   refine w_frz (v := sl cHeld (⟨false, true, [a1]⟩ : Sl Held)) (by kernel_rfl) ?_
   refine w_pure 8 rfl (by kernel_rfl) ?_
   refine bind_elim hF (fun y573 hy573 hF => w_slice cHeld (sz := 2) hy573 (by kernel_rfl) len_cHeld (fun e => by cases e) ?_)
   refine w_end (by kernel_rfl) ?_
   refine rows_next ?_
   refine bind_elim hF (fun y574 hy574 hF => w_app0 cHeld (e := 41) (sz := 2) (x := (⟨false, true, []⟩ : Sl Held)) (ys := y572.l) hy574 (by kernel_rfl) (by kernel_rfl) (by decide) len_cHeld (gives_sl (x := y572) (by kernel_rfl) len_cHeld) ?_)
   refine w_end (by kernel_rfl) ?_
   refine ⟨⟨(by kernel_rfl), chks_of (by kernel_rfl) (by kernel_rfl)⟩, ?_⟩
   refine w_end (by kernel_rfl) ?_
   refine rows_next ?_
   refine bind_elim hF (fun y575 hy575 hF => w_app cHeld (e := 41) (sz := 2) (l0 := 1) (real := (!(y572.l.length == 0))) (ver := 1) (x := y574) (ys := (⟨false, true, [a1]⟩ : Sl Held).l) hy575 (by kernel_rfl) (by decide) (gives_sl (x := (⟨false, true, [a1]⟩ : Sl Held)) (by kernel_rfl) len_cHeld) (room_at (by kernel_rfl)) ?_)
   refine w_end (by kernel_rfl) ?_
   refine ⟨⟨(by kernel_rfl), trivial⟩, ?_⟩
   refine w_end (by kernel_rfl) ?_
   refine rows_next ?_
   refine bind_elim hF (fun y576 hy576 hF => w_app cHeld (e := 41) (sz := 2) (l0 := 1) (real := ((!(y572.l.length == 0)) || !((⟨false, true, [a1]⟩ : Sl Held).l.length == 0))) (ver := (1 + 1)) (x := y575) (ys := y573.l) hy576 (by kernel_rfl) (by decide) (gives_sl (x := y573) (by kernel_rfl) len_cHeld) (room_at (by kernel_rfl)) ?_)
   refine w_end (by kernel_rfl) ?_
   refine ⟨⟨(by kernel_rfl), trivial⟩, ?_⟩
   refine w_pure 1 rfl (by kernel_rfl) ?_
   refine w_end (by kernel_rfl) ?_
   refine rows_done ?_
   refine ⟨_, _, VS.refl _ _ _, ?_⟩
   refine then_n ?_
   refine go_same ?_
   refine x_ret (by kernel_rfl) ?_
   have e := Option.some.inj hF
   subst e
   exact fin_end (.inl rfl) (by kernel_rfl) (by kernel_rfl) (Nat.zero_le _) (low_sl low_cHeld) (by kernel_rfl) ⟨rfl, rfl⟩
  ·refine x_seq (by kernel_rfl) ?_
   refine x_drawn 0 call_ends callMono (by kernel_rfl) (by kernel_rfl) ?_
   refine w_pure 5 rfl (by kernel_rfl) ?_
   refine ite_elim hF (fun hc1 hF => ?_) (fun hc1 hF => ?_)
   ·refine w_set 26 (b := true) (by kernel_rfl) hc1 ?_
    refine w_pure 7 rfl (by kernel_rfl) ?_
    refine bind_elim hF (fun y580 hy580 hF => w_iaddr cHeld (sz := 2) hy580 (by kernel_rfl) (by decide) len_cHeld ?_)
    refine w_pure 9 rfl (by kernel_rfl) ?_
    refine w_elem cHeld 0 (t := 3) (v := .int .i64 y580.Number) (sz := 2) (z := 1) hy580 (by kernel_rfl) (by kernel_rfl) len_cHeld (by decide) (by decide) ?_
    refine w_pure 14 rfl (by kernel_rfl) ?_
    refine w_end (by kernel_rfl) ?_
    refine ⟨_, _, VS.refl _ _ _, ?_⟩
    refine then_n ?_
    refine go_same ?_
    refine ite_elim hF (fun hc2 hF => ?_) (fun hc2 hF => ?_)
    ·refine x_set 35 (b := true) (by kernel_rfl) hc2 ?_
     refine x_cond (b0 := true) (by kernel_rfl) (by kernel_rfl) ?_
     refine x_seq (by kernel_rfl) ?_
     refine x_region (by kernel_rfl) ?_
     refine w_run 2 [.cells (cHeld a1)] rfl (by kernel_rfl) ?_
     refine w_end (by kernel_rfl) ?_
     refine then_n ?_
     refine go_same ?_
     refine x_ret (by kernel_rfl) ?_
     refine then_r ?_
     have e := Option.some.inj hF
     subst e
     exact fin_end (.inl rfl) (by kernel_rfl) (by kernel_rfl) (Nat.zero_le _) (low_sl low_cHeld) (by kernel_rfl) ⟨rfl, rfl⟩
    ·refine x_set 35 (b := false) (by kernel_rfl) hc2 ?_
     refine x_cond (b0 := false) (by kernel_rfl) (by kernel_rfl) ?_
     refine x_skip (.inl (by kernel_rfl)) ?_
     refine then_n ?_
     exact x_to hJ2 (VS.same2 562915559340502 (by kernel_rfl) (by kernel_rfl)) ⟨(some true), (some (y580.Number == a1.Number)), rfl, rfl, hF⟩
   ·refine w_set 26 (b := false) (by kernel_rfl) hc1 ?_
    refine w_pure 14 rfl (by kernel_rfl) ?_
    refine w_end (by kernel_rfl) ?_
    refine ⟨_, _, VS.refl _ _ _, ?_⟩
    refine then_n ?_
    refine go_same ?_
    refine x_cond (b0 := false) (by kernel_rfl) (by kernel_rfl) ?_
    refine x_skip (.inl (by kernel_rfl)) ?_
    refine then_n ?_
    exact x_to hJ2 (VS.same2 562915559340502 (by kernel_rfl) (by kernel_rfl)) ⟨(some false), none, rfl, rfl, hF⟩
 ·refine x_block (by kernel_rfl) ?_
  refine x_loop (fun d fr H => ∃ (x607 : Int) (g590 : Option Bool) (g591 : Option Bool) (g592 : Option Bool) (g593 : Option Bool), fr = [sl cHeld a0, .any, .any, .ptr 0 0, .any, .int .i64 x607, .any, .any, .any, junkB g590, junkB g591, .any, .any, .any, .any, .any, .any, .any, junkB g592, junkB g593, .any, .any, .any, .any, .any, .any, .any, .any, .any, .any, .any, .any, .any, .any, .any, .any, .any, .any, .any, .any, .any, .any, .any, .any, .any, .any, .any, .any, .any] ∧ H = [.cells (cHeld a1)] ∧ loopN (r24_put_B607 a0 a1) d x607 = some r) (by kernel_rfl) (fun fr H ⟨x607, g590, g591, g592, g593, e1, e2, hF⟩ => loop_no hF) (fun d607 fr H ⟨x607, g590, g591, g592, g593, e1, e2, hF⟩ => ?_) (VS.same2 562949953421270 (by kernel_rfl) (by kernel_rfl)) ⟨0, none, none, none, none, rfl, rfl, hF⟩
  subst e1 e2
  have hF := loop_in hF
  refine x_seq (by kernel_rfl) ?_
  refine x_seq (by kernel_rfl) ?_
  refine x_drawn 0 call_ends callMono (by kernel_rfl) (by kernel_rfl) ?_
  refine w_pure 5 rfl (by kernel_rfl) ?_
  refine ite_elim hF (fun hc3 hF => ?_) (fun hc3 hF => ?_)
  ·refine w_set 10 (b := true) (by kernel_rfl) hc3 ?_
   refine w_pure 7 rfl (by kernel_rfl) ?_
   refine bind_elim hF (fun y615 hy615 hF => w_iaddr cHeld (sz := 2) hy615 (by kernel_rfl) (by decide) len_cHeld ?_)
   refine w_pure 9 rfl (by kernel_rfl) ?_
   refine w_elem cHeld 0 (t := 3) (v := .int .i64 y615.Number) (sz := 2) (z := 1) hy615 (by kernel_rfl) (by kernel_rfl) len_cHeld (by decide) (by decide) ?_
   refine w_pure 14 rfl (by kernel_rfl) ?_
   refine w_end (by kernel_rfl) ?_
   refine ⟨_, _, VS.refl _ _ _, ?_⟩
   refine then_n ?_
   refine go_same ?_
   refine ite_elim hF (fun hc4 hF => ?_) (fun hc4 hF => ?_)
   ·refine x_set 19 (b := true) (by kernel_rfl) hc4 ?_
    refine x_cond (b0 := true) (by kernel_rfl) (by kernel_rfl) ?_
    refine x_skip (.inl (by kernel_rfl)) ?_
    refine then_n ?_
    refine go_same ?_
    refine x_block (by kernel_rfl) ?_
    refine x_region (by kernel_rfl) ?_
    refine w_run 3 [.cells (cHeld a1)] rfl (by kernel_rfl) ?_
    refine w_end (by kernel_rfl) ?_
    refine block_n ?_
    refine then_n ?_
    exact x_back (VS.same2 562949953421270 (by kernel_rfl) (by kernel_rfl)) ⟨iAdd .i64 x607 1, (some (iLt x607 (a0.l.length : Int))), (some true), (some (iLt y615.Number a1.Number)), (some true), rfl, rfl, hF⟩
   ·refine x_set 19 (b := false) (by kernel_rfl) hc4 ?_
    refine x_cond (b0 := false) (by kernel_rfl) (by kernel_rfl) ?_
    refine x_exit (by kernel_rfl) ?_
    refine then_e ?_
    refine then_e ?_
    refine block_e ?_
    refine then_n ?_
    exact x_to hJ1 (VS.same2 562949952896982 (by kernel_rfl) (by kernel_rfl)) ⟨x607, (some (iLt x607 (a0.l.length : Int))), (some true), (some (iLt y615.Number a1.Number)), rfl, rfl, hF⟩
  ·refine w_set 10 (b := false) (by kernel_rfl) hc3 ?_
   refine w_pure 14 rfl (by kernel_rfl) ?_
   refine w_end (by kernel_rfl) ?_
   refine ⟨_, _, VS.refl _ _ _, ?_⟩
   refine then_n ?_
   refine go_same ?_
   refine x_cond (b0 := false) (by kernel_rfl) (by kernel_rfl) ?_
   refine x_exit (by kernel_rfl) ?_
   refine then_e ?_
   refine then_e ?_
   refine block_e ?_
   refine then_n ?_
   exact x_to hJ1 (VS.same2 562949952896982 (by kernel_rfl) (by kernel_rfl)) ⟨x607, (some (iLt x607 (a0.l.length : Int))), (some false), none, rfl, rfl, hF⟩
def r24_Book_Prune_J11 (p706 : Sl Affidavitref24_State) (p745 : Sl Int) (p749 : Sl Held) : Option ((Sl Int) × (Sl Affidavitref24_State) × (Sl Held)) :=
 some (p745.weak, p706, p749)
def r24_Book_Prune_B783 (p706 : Sl Affidavitref24_State) (k783 : ((Sl Int) × (Sl Held)) → Option ((Sl Int) × (Sl Affidavitref24_State) × (Sl Held))) (x783 : (Sl Int) × (Sl Held)) : Option ((Sl Int) × (Sl Affidavitref24_State) × (Sl Held)) :=
 if iGt (x783.2.l.length : Int) 0 = true then if iLt (x783.1.l.length : Int) 64 = true then (idxL x783.2.l 0).bind fun y784 => (appL 8 x783.1 (⟨false, true, [y784.Number]⟩ : Sl Int).l).bind fun y785 => (cutL x783.2 (some 1) none none).bind fun y786 => k783 (y785, y786) else r24_Book_Prune_J11 p706 x783.1 x783.2 else r24_Book_Prune_J11 p706 x783.1 x783.2
def r24_Book_Prune_J10 (p706 : Sl Affidavitref24_State) (p707 : Sl Held) : Option ((Sl Int) × (Sl Affidavitref24_State) × (Sl Held)) :=
 loopN (r24_Book_Prune_B783 p706) FUEL (⟨true, true, []⟩, p707)
def r24_Book_Prune_J20 (k1008 : (Int × (Sl Held)) → Option ((Sl Int) × (Sl Affidavitref24_State) × (Sl Held))) (x1008 : Int × (Sl Held)) (p1019 : Sl Held) : Option ((Sl Int) × (Sl Affidavitref24_State) × (Sl Held)) :=
 k1008 (iAdd .i64 x1008.1 1, p1019)
def r24_Book_Prune_B1008 (k953 : ((Sl Affidavitref24_State) × (Sl Held)) → Option ((Sl Int) × (Sl Affidavitref24_State) × (Sl Held))) (y958 : Affidavitref24_State) (y959 : Sl Affidavitref24_State) (k1008 : (Int × (Sl Held)) → Option ((Sl Int) × (Sl Affidavitref24_State) × (Sl Held))) (x1008 : Int × (Sl Held)) : Option ((Sl Int) × (Sl Affidavitref24_State) × (Sl Held)) :=
 if iLt x1008.1 (y958.L.l.length : Int) = true then (idxL y958.L.l x1008.1).bind fun y1020 => (r24_Book_Has y1020.Number y959 x1008.2).bind fun y1021 => if y1021 = true then r24_Book_Prune_J20 k1008 x1008 x1008.2 else (idxL y958.L.l x1008.1).bind fun y1026 => (r24_put x1008.2 y1026).bind fun y1027 => r24_Book_Prune_J20 k1008 x1008 y1027 else k953 (y959, x1008.2)
def r24_Book_Prune_B953 (a0 : Int) (k953 : ((Sl Affidavitref24_State) × (Sl Held)) → Option ((Sl Int) × (Sl Affidavitref24_State) × (Sl Held))) (x953 : (Sl Affidavitref24_State) × (Sl Held)) : Option ((Sl Int) × (Sl Affidavitref24_State) × (Sl Held)) :=
 if iGt (x953.1.l.length : Int) 1 = true then (idxL x953.1.l 1).bind fun y957 => if iLe y957.N a0 = true then (idxL x953.1.l 0).bind fun y958 => (cutL x953.1 (some 1) none none).bind fun y959 => loopN (r24_Book_Prune_B1008 k953 y958 y959) FUEL (0, x953.2) else r24_Book_Prune_J10 x953.1 x953.2 else r24_Book_Prune_J10 x953.1 x953.2
def r24_Book_Prune (a0 : Int) (a1 : Sl Affidavitref24_State) (a2 : Sl Held) : Option ((Sl Int) × (Sl Affidavitref24_State) × (Sl Held)) :=
 loopN (r24_Book_Prune_B953 a0) FUEL (a1, a2)
theorem r24_Book_Prune_ev {a0 : Int} {a1 : Sl Affidavitref24_State} {a2 : Sl Held} {r : (Sl Int) × (Sl Affidavitref24_State) × (Sl Held)} (hF : r24_Book_Prune a0 a1 a2 = some r) : EvCall Try.prog T G0 14 [.ptr 0 0, .int .i64 a0] [.cells ((cL cAffidavitref24_State) a1 ++ (cL cHeld) a2)] (fun v H' => v = sl (cI .i64) r.1 ∧ H' = [.cells ((cL cAffidavitref24_State) r.2.1 ++ (cL cHeld) r.2.2)]) := by
 refine x_call Try.func14 (by kernel_rfl) (by kernel_rfl) rfl ?_
 refine x_seq (by kernel_rfl) ?_
 refine x_region (by kernel_rfl) ?_
 refine w_run 1 [.cells ((cL cAffidavitref24_State) a1 ++ (cL cHeld) a2)] rfl (by kernel_rfl) ?_
 refine w_end (by kernel_rfl) ?_
 refine then_n ?_
 refine go_same ?_
 refine x_join (fun fr H => ∃ (p706 : Sl Affidavitref24_State) (p707 : Sl Held) (g700 : Option Bool) (g701 : Option Bool) (g702 : Option Bool) (g703 : Option Bool) (g704 : Option Bool) (g705 : Option Bool), fr = [.ptr 0 0, .any, .any, .any, .any, .any, .any, .any, .any, .any, .any, .any, .any, junkB g700, junkB g701, .any, .any, .any, .any, .any, .any, .any, .any, junkB g702, .bool false, .any, .any, .any, .any, .any, .any, .any, .any, .any, .any, .any, .any, .any, .any, .any, .any, .any, .any, junkB g703, .any, .any, .any, .any, .any, .any, .any, .any, junkB g704, junkB g705, .any, .any, .any, .any, .any, .any, .any, .any, .any, .any, .any, .any, .any, .any, .any, .any, .any, .any, .any, .any, .any, .any, .any, .any, .any, .any, .any, .any, .any, .any, .any, .any, .any, .any, .any, .any, .any, .any, .any, .any, .any, .any] ∧ H = [.cells ((cL cAffidavitref24_State) p706 ++ (cL cHeld) p707)] ∧ r24_Book_Prune_J10 p706 p707 = some r) (by kernel_rfl) (fun fr H ⟨p706, p707, g700, g701, g702, g703, g704, g705, e1, e2, hF⟩ => ?_) (fun hJ10 => ?_)
 ·subst e1 e2
  refine x_seq (by kernel_rfl) ?_
  refine x_region (by kernel_rfl) ?_
  refine w_run 1 [.cells ((cL cAffidavitref24_State) p706 ++ (cL cHeld) p707)] rfl (by kernel_rfl) ?_
  refine w_end (by kernel_rfl) ?_
  refine then_n ?_
  refine go_same ?_
  refine x_join (fun fr H => ∃ (p745 : Sl Int) (p749 : Sl Held) (g744 : Nat) (g746 : Option Bool) (g747 : Option Bool) (g748 : Option Bool) (g750 : Bool), fr = [.any, .any, .any, .any, .any, .any, .any, ownv (cI .i64) 1 g744 1 p745, .any, .any, .any, .any, .any, junkB g700, junkB g701, .any, .any, .any, .any, .any, .any, .any, .any, junkB g702, .bool false, .any, .any, .any, .any, .any, .any, .any, .any, .any, .any, .any, .any, .any, .any, .any, .any, .any, .any, junkB g703, .any, .any, .any, .any, .any, .any, .any, .any, junkB g704, junkB g705, .any, .any, .any, .any, .any, .any, .any, .any, .any, .any, .any, .any, .any, .any, .any, .any, .any, junkB g746, junkB g747, .any, .any, junkB g748, .bool false, .any, .any, .any, .any, .any, .any, .any, .any, .any, .any, .any, .any, .any, .any, .any, .any, .any, .any, .any] ∧ H = [.cells ((cL cAffidavitref24_State) p706 ++ (cL cHeld) p749), .room g744 g750] ∧ r24_Book_Prune_J11 p706 p745 p749 = some r) (by kernel_rfl) (fun fr H ⟨p745, p749, g744, g746, g747, g748, g750, e1, e2, hF⟩ => ?_) (fun hJ11 => ?_)
  ·subst e1 e2
   refine x_seq (by kernel_rfl) ?_
   refine x_region (by kernel_rfl) ?_
   refine w_run 2 [.cells ((cL cAffidavitref24_State) p706 ++ (cL cHeld) p749), .room g744 g750] rfl (by kernel_rfl) ?_
   refine w_end (by kernel_rfl) ?_
   refine then_n ?_
   refine go_same ?_
   refine x_ret (by kernel_rfl) ?_
   have e := Option.some.inj hF
   subst e
   exact fin_sh [0] (.inl rfl) (by kernel_rfl) (by kernel_rfl) (by kernel_rfl) (by kernel_rfl) (tight_sl low_cI) (shh (b0 := .cells ((cL cAffidavitref24_State) p706 ++ (cL cHeld) p749)) (by kernel_rfl) (shb_cells (by kernel_rfl) (by kernel_rfl) (tights_app (tights_lows ((low_cL low_cAffidavitref24_State) _)) (tights_lows ((low_cL low_cHeld) _)))) shh_nil) (And.intro rfl rfl)
  ·refine x_block (by kernel_rfl) ?_
   refine x_loop (fun d fr H => ∃ (x783 : (Sl Int) × (Sl Held)) (g764 : Nat) (g766 : Option Bool) (g767 : Option Bool) (g768 : Option Bool) (g769 : Option Bool) (g771 : Bool), fr = [.ptr 0 0, .any, .any, .any, .any, .any, .any, ownv (cI .i64) 1 g764 1 x783.1, .any, .any, .any, .any, .any, junkB g700, junkB g701, .any, .any, .any, .any, .any, .any, .any, .any, junkB g702, .bool false, .any, .any, .any, .any, .any, .any, .any, .any, .any, .any, .any, .any, .any, .any, .any, .any, .any, .any, junkB g703, .any, .any, .any, .any, .any, .any, .any, .any, junkB g704, junkB g705, .any, .any, .any, .any, .any, .any, .any, .any, .any, .any, .any, .any, .any, .any, .any, .any, .any, junkB g766, junkB g767, .any, .any, junkB g768, junkB g769, .any, .any, .any, .any, .any, .any, .any, .any, .any, .any, .any, .any, .any, .any, .any, .any, .any, .any, .any] ∧ H = [.cells ((cL cAffidavitref24_State) p706 ++ (cL cHeld) x783.2), .room g764 g771] ∧ loopN (r24_Book_Prune_B783 p706) d x783 = some r) (by kernel_rfl) (fun fr H ⟨x783, g764, g766, g767, g768, g769, g771, e1, e2, hF⟩ => loop_no hF) (fun d783 fr H ⟨x783, g764, g766, g767, g768, g769, g771, e1, e2, hF⟩ => ?_) (VS.trans (VS.thaw (cI .i64) 7 1 ⟨true, true, []⟩ (by kernel_rfl) rfl (fun _ => rfl)) (VS.same2 79228162514250817998543626110 (by kernel_rfl) (by kernel_rfl))) ⟨(⟨true, true, []⟩, p707), 1, none, none, none, none, false, rfl, rfl, hF⟩
   subst e1 e2
   have hF := loop_in hF
   refine x_seq (by kernel_rfl) ?_
   refine x_seq (by kernel_rfl) ?_
   refine x_region (by kernel_rfl) ?_
   refine w_run 7 [.cells ((cL cAffidavitref24_State) p706 ++ (cL cHeld) x783.2), .room g764 g771] rfl (by kernel_rfl) ?_
   refine ite_elim hF (fun hc1 hF => ?_) (fun hc1 hF => ?_)
   ·refine w_set 72 (b := true) (by kernel_rfl) hc1 ?_
    refine w_run 11 [.cells ((cL cAffidavitref24_State) p706 ++ (cL cHeld) x783.2), .room g764 g771] rfl (by kernel_rfl) ?_
    refine w_end (by kernel_rfl) ?_
    refine then_n ?_
    refine go_same ?_
    refine ite_elim hF (fun hc2 hF => ?_) (fun hc2 hF => ?_)
    ·refine x_set 76 (b := true) (by kernel_rfl) hc2 ?_
     refine x_cond (b0 := true) (by kernel_rfl) (by kernel_rfl) ?_
     refine x_skip (.inl (by kernel_rfl)) ?_
     refine then_n ?_
     refine go_same ?_
     refine x_block (by kernel_rfl) ?_
     refine x_seq (by kernel_rfl) ?_
     refine x_region (by kernel_rfl) ?_
     refine w_run 5 [.cells ((cL cAffidavitref24_State) p706 ++ (cL cHeld) x783.2), .room g764 g771] rfl (by kernel_rfl) ?_
     refine bind_elim hF (fun y784 hy784 hF => w_iaddr cHeld (sz := 2) hy784 (by kernel_rfl) (by decide) len_cHeld ?_)
     refine w_run 7 [.cells ((cL cAffidavitref24_State) p706 ++ (cL cHeld) x783.2), .room g764 g771] rfl (by kernel_rfl) ?_
     refine w_elem cHeld 0 (t := 3) (v := .int .i64 y784.Number) (sz := 2) (z := 1) hy784 (by kernel_rfl) (by kernel_rfl) len_cHeld (by decide) (by decide) ?_
     refine w_frz (v := sl (cI .i64) (⟨false, true, [y784.Number]⟩ : Sl Int)) (by kernel_rfl) ?_
     refine bind_elim hF (fun y785 hy785 hF => w_app (cI .i64) (e := 3) (sz := 1) (l0 := 1) (real := g771) (ver := g764) (x := x783.1) (ys := (⟨false, true, [y784.Number]⟩ : Sl Int).l) hy785 (by kernel_rfl) (by decide) (gives_sl (x := (⟨false, true, [y784.Number]⟩ : Sl Int)) (by kernel_rfl) (fun _ => rfl)) (room_at (by kernel_rfl)) ?_)
     refine w_run 11 [.cells ((cL cAffidavitref24_State) p706 ++ (cL cHeld) x783.2), .room (g764 + 1) (g771 || !((⟨false, true, [y784.Number]⟩ : Sl Int).l.length == 0))] rfl (by kernel_rfl) ?_
     refine w_end (by kernel_rfl) ?_
     refine then_n ?_
     refine go_same ?_
     refine x_region (by kernel_rfl) ?_
     refine w_run 5 [.cells ((cL cAffidavitref24_State) p706 ++ (cL cHeld) x783.2), .room (g764 + 1) (g771 || !((⟨false, true, [y784.Number]⟩ : Sl Int).l.length == 0))] rfl (by kernel_rfl) ?_
     refine bind_elim hF (fun y786 hy786 hF => w_slice cHeld (sz := 2) hy786 (by kernel_rfl) len_cHeld (fun e => by cases e) ?_)
     refine w_run 9 [.cells ((cL cAffidavitref24_State) p706 ++ (cL cHeld) y786), .room (g764 + 1) (g771 || !((⟨false, true, [y784.Number]⟩ : Sl Int).l.length == 0))] rfl (by kernel_rfl) ?_
     refine w_end (by kernel_rfl) ?_
     refine block_n ?_
     refine then_n ?_
     exact x_back (VS.same2 79228162514250817998543626110 (by kernel_rfl) (by kernel_rfl)) ⟨(y785, y786), (g764 + 1), (some (iGt (x783.2.l.length : Int) 0)), (some true), (some (iLt (x783.1.l.length : Int) 64)), (some true), (g771 || !((⟨false, true, [y784.Number]⟩ : Sl Int).l.length == 0)), rfl, rfl, hF⟩
    ·refine x_set 76 (b := false) (by kernel_rfl) hc2 ?_
     refine x_cond (b0 := false) (by kernel_rfl) (by kernel_rfl) ?_
     refine x_exit (by kernel_rfl) ?_
     refine then_e ?_
     refine then_e ?_
     refine block_e ?_
     refine then_n ?_
     exact x_to hJ11 (VS.same2 79228086956387092084220206975 (by kernel_rfl) (by kernel_rfl)) ⟨x783.1, x783.2, g764, (some (iGt (x783.2.l.length : Int) 0)), (some true), (some (iLt (x783.1.l.length : Int) 64)), g771, rfl, rfl, hF⟩
   ·refine w_set 72 (b := false) (by kernel_rfl) hc1 ?_
    refine w_run 11 [.cells ((cL cAffidavitref24_State) p706 ++ (cL cHeld) x783.2), .room g764 g771] rfl (by kernel_rfl) ?_
    refine w_end (by kernel_rfl) ?_
    refine then_n ?_
    refine go_same ?_
    refine x_cond (b0 := false) (by kernel_rfl) (by kernel_rfl) ?_
    refine x_exit (by kernel_rfl) ?_
    refine then_e ?_
    refine then_e ?_
    refine block_e ?_
    refine then_n ?_
    exact x_to hJ11 (VS.same2 79228086956387092084220206975 (by kernel_rfl) (by kernel_rfl)) ⟨x783.1, x783.2, g764, (some (iGt (x783.2.l.length : Int) 0)), (some false), none, g771, rfl, rfl, hF⟩
 ·refine x_block (by kernel_rfl) ?_
  refine x_loop (fun d fr H => ∃ (x953 : (Sl Affidavitref24_State) × (Sl Held)) (g861 : Option Bool) (g862 : Option Bool) (g863 : Option Bool) (g864 : Option Bool) (g865 : Option Bool) (g866 : Option Bool) (g867 : Option Bool), fr = [.ptr 0 0, .int .i64 a0, .any, .any, .any, .any, .any, .any, .any, .any, .any, .any, .any, junkB g861, junkB g862, .any, .any, .any, .any, .any, .any, .any, .any, junkB g863, junkB g864, .any, .any, .any, .any, .any, .any, .any, .any, .any, .any, .any, .any, .any, .any, .any, .any, .any, .any, junkB g865, .any, .any, .any, .any, .any, .any, .any, .any, junkB g866, junkB g867, .any, .any, .any, .any, .any, .any, .any, .any, .any, .any, .any, .any, .any, .any, .any, .any, .any, .any, .any, .any, .any, .any, .any, .any, .any, .any, .any, .any, .any, .any, .any, .any, .any, .any, .any, .any, .any, .any, .any, .any, .any, .any] ∧ H = [.cells ((cL cAffidavitref24_State) x953.1 ++ (cL cHeld) x953.2)] ∧ loopN (r24_Book_Prune_B953 a0) d x953 = some r) (by kernel_rfl) (fun fr H ⟨x953, g861, g862, g863, g864, g865, g866, g867, e1, e2, hF⟩ => loop_no hF) (fun d953 fr H ⟨x953, g861, g862, g863, g864, g865, g866, g867, e1, e2, hF⟩ => ?_) (VS.same2 79228162514264337593543950332 (by kernel_rfl) (by kernel_rfl)) ⟨(a1, a2), none, none, none, none, none, none, none, rfl, rfl, hF⟩
  subst e1 e2
  have hF := loop_in hF
  refine x_seq (by kernel_rfl) ?_
  refine x_seq (by kernel_rfl) ?_
  refine x_region (by kernel_rfl) ?_
  refine w_run 7 [.cells ((cL cAffidavitref24_State) x953.1 ++ (cL cHeld) x953.2)] rfl (by kernel_rfl) ?_
  refine ite_elim hF (fun hc3 hF => ?_) (fun hc3 hF => ?_)
  ·refine w_set 14 (b := true) (by kernel_rfl) hc3 ?_
   refine w_run 11 [.cells ((cL cAffidavitref24_State) x953.1 ++ (cL cHeld) x953.2)] rfl (by kernel_rfl) ?_
   refine bind_elim hF (fun y957 hy957 hF => w_iaddr cAffidavitref24_State (sz := 2) hy957 (by kernel_rfl) (by decide) len_cAffidavitref24_State ?_)
   refine w_run 13 [.cells ((cL cAffidavitref24_State) x953.1 ++ (cL cHeld) x953.2)] rfl (by kernel_rfl) ?_
   refine w_elem cAffidavitref24_State 0 (t := 3) (v := .int .i64 y957.N) (sz := 2) (z := 1) hy957 (by kernel_rfl) (by kernel_rfl) len_cAffidavitref24_State (by decide) (by decide) ?_
   refine w_run 17 [.cells ((cL cAffidavitref24_State) x953.1 ++ (cL cHeld) x953.2)] rfl (by kernel_rfl) ?_
   refine w_end (by kernel_rfl) ?_
   refine then_n ?_
   refine go_same ?_
   refine ite_elim hF (fun hc4 hF => ?_) (fun hc4 hF => ?_)
   ·refine x_set 24 (b := true) (by kernel_rfl) hc4 ?_
    refine x_cond (b0 := true) (by kernel_rfl) (by kernel_rfl) ?_
    refine x_skip (.inl (by kernel_rfl)) ?_
    refine then_n ?_
    refine go_same ?_
    refine x_block (by kernel_rfl) ?_
    refine x_seq (by kernel_rfl) ?_
    refine x_region (by kernel_rfl) ?_
    refine w_run 4 [.cells ((cL cAffidavitref24_State) x953.1 ++ (cL cHeld) x953.2)] rfl (by kernel_rfl) ?_
    refine bind_elim hF (fun y958 hy958 hF => w_iaddr cAffidavitref24_State (sz := 2) hy958 (by kernel_rfl) (by decide) len_cAffidavitref24_State ?_)
    refine w_run 6 [.cells ((cL cAffidavitref24_State) x953.1 ++ (cL cHeld) x953.2)] rfl (by kernel_rfl) ?_
    refine w_elem cAffidavitref24_State 1 (t := 27) (v := sl cHeld y958.L) (sz := 2) (z := 1) hy958 (by kernel_rfl) (by kernel_rfl) len_cAffidavitref24_State (by decide) (by decide) ?_
    refine w_run 8 [.cells ((cL cAffidavitref24_State) x953.1 ++ (cL cHeld) x953.2)] rfl (by kernel_rfl) ?_
    refine w_end (by kernel_rfl) ?_
    refine then_n ?_
    refine go_same ?_
    refine x_seq (by kernel_rfl) ?_
    refine x_region (by kernel_rfl) ?_
    refine w_run 5 [.cells ((cL cAffidavitref24_State) x953.1 ++ (cL cHeld) x953.2)] rfl (by kernel_rfl) ?_
    refine bind_elim hF (fun y959 hy959 hF => w_slice cAffidavitref24_State (sz := 2) hy959 (by kernel_rfl) len_cAffidavitref24_State (fun e => by cases e) ?_)
    refine w_run 9 [.cells ((cL cAffidavitref24_State) y959 ++ (cL cHeld) x953.2)] rfl (by kernel_rfl) ?_
    refine w_end (by kernel_rfl) ?_
    refine then_n ?_
    refine go_same ?_
    refine x_seq (by kernel_rfl) ?_
    refine x_region (by kernel_rfl) ?_
    refine w_run 1 [.cells ((cL cAffidavitref24_State) y959 ++ (cL cHeld) x953.2)] rfl (by kernel_rfl) ?_
    refine w_end (by kernel_rfl) ?_
    refine then_n ?_
    refine go_same ?_
    refine x_block (by kernel_rfl) ?_
    refine x_loop (fun d fr H => ∃ (x1008 : Int × (Sl Held)) (g980 : Option Bool) (g981 : Option Bool) (g982 : Option Bool), fr = [.ptr 0 0, .int .i64 a0, .any, .any, .any, sl cHeld y958.L, .int .i64 x1008.1, .any, .any, .any, .any, .any, .any, .bool (iGt (x953.1.l.length : Int) 1), .bool true, .any, .any, .any, .any, .any, .any, .any, .any, .bool (iLe y957.N a0), .bool true, .any, .any, .any, .any, .any, .any, .any, .any, .any, .any, .any, .any, .any, .any, .any, .any, .any, .any, junkB g980, .any, .any, .any, .any, .any, .any, .any, .any, junkB g981, junkB g982, .any, .any, .any, .any, .any, .any, .any, .any, .any, .any, .any, .any, .any, .any, .any, .any, .any, .any, .any, .any, .any, .any, .any, .any, .any, .any, .any, .any, .any, .any, .any, .any, .any, .any, .any, .any, .any, .any, .any, .any, .any, .any] ∧ H = [.cells ((cL cAffidavitref24_State) y959 ++ (cL cHeld) x1008.2)] ∧ loopN (r24_Book_Prune_B1008 (loopN (r24_Book_Prune_B953 a0) d953) y958 y959) d x1008 = some r) (by kernel_rfl) (fun fr H ⟨x1008, g980, g981, g982, e1, e2, hF⟩ => loop_no hF) (fun d1008 fr H ⟨x1008, g980, g981, g982, e1, e2, hF⟩ => ?_) (VS.same2 79228162514250817998543626140 (by kernel_rfl) (by kernel_rfl)) ⟨(0, x953.2), g865, g866, g867, rfl, rfl, hF⟩
    subst e1 e2
    have hF := loop_in hF
    refine x_seq (by kernel_rfl) ?_
    refine x_seq (by kernel_rfl) ?_
    refine x_region (by kernel_rfl) ?_
    refine w_run 4 [.cells ((cL cAffidavitref24_State) y959 ++ (cL cHeld) x1008.2)] rfl (by kernel_rfl) ?_
    refine w_end (by kernel_rfl) ?_
    refine then_n ?_
    refine go_same ?_
    refine ite_elim hF (fun hc5 hF => ?_) (fun hc5 hF => ?_)
    ·refine x_set 43 (b := true) (by kernel_rfl) hc5 ?_
     refine x_cond (b0 := true) (by kernel_rfl) (by kernel_rfl) ?_
     refine x_skip (.inl (by kernel_rfl)) ?_
     refine then_n ?_
     refine go_same ?_
     refine x_join (fun fr H => ∃ (p1019 : Sl Held) (g1017 : Option Bool) (g1018 : Option Bool), fr = [.ptr 0 0, .int .i64 a0, .any, .any, .any, sl cHeld y958.L, .int .i64 x1008.1, .any, .any, .any, .any, .any, .any, .bool (iGt (x953.1.l.length : Int) 1), .bool true, .any, .any, .any, .any, .any, .any, .any, .any, .bool (iLe y957.N a0), .bool true, .any, .any, .any, .any, .any, .any, .any, .any, .any, .any, .any, .any, .any, .any, .any, .any, .any, .any, .bool true, .any, .any, .any, .any, .any, .any, .any, .any, junkB g1017, junkB g1018, .any, .any, .any, .any, .any, .any, .any, .any, .any, .any, .any, .any, .any, .any, .any, .any, .any, .any, .any, .any, .any, .any, .any, .any, .any, .any, .any, .any, .any, .any, .any, .any, .any, .any, .any, .any, .any, .any, .any, .any, .any, .any] ∧ H = [.cells ((cL cAffidavitref24_State) y959 ++ (cL cHeld) p1019)] ∧ r24_Book_Prune_J20 (loopN (r24_Book_Prune_B1008 (loopN (r24_Book_Prune_B953 a0) d953) y958 y959) d1008) x1008 p1019 = some r) (by kernel_rfl) (fun fr H ⟨p1019, g1017, g1018, e1, e2, hF⟩ => ?_) (fun hJ20 => ?_)
     ·subst e1 e2
      refine x_region (by kernel_rfl) ?_
      refine w_run 3 [.cells ((cL cAffidavitref24_State) y959 ++ (cL cHeld) p1019)] rfl (by kernel_rfl) ?_
      refine w_end (by kernel_rfl) ?_
      refine then_n ?_
      exact x_back (VS.same2 79228162514250826794636648348 (by kernel_rfl) (by kernel_rfl)) ⟨(iAdd .i64 x1008.1 1, p1019), (some true), g1017, g1018, rfl, rfl, hF⟩
     ·refine x_block (by kernel_rfl) ?_
      refine x_seq (by kernel_rfl) ?_
      refine x_region (by kernel_rfl) ?_
      refine w_run 3 [.cells ((cL cAffidavitref24_State) y959 ++ (cL cHeld) x1008.2)] rfl (by kernel_rfl) ?_
      refine bind_elim hF (fun y1020 hy1020 hF => w_iaddr cHeld (sz := 2) hy1020 (by kernel_rfl) (by decide) len_cHeld ?_)
      refine w_run 5 [.cells ((cL cAffidavitref24_State) y959 ++ (cL cHeld) x1008.2)] rfl (by kernel_rfl) ?_
      refine w_elem cHeld 0 (t := 3) (v := .int .i64 y1020.Number) (sz := 2) (z := 1) hy1020 (by kernel_rfl) (by kernel_rfl) len_cHeld (by decide) (by decide) ?_
      refine bind_elim hF (fun y1021 hy1021 hF => w_ocall [0] [0] (ga := [.ptr 0 0, .int .i64 y1020.Number]) (as0 := [.ptr 0 0, .int .i64 y1020.Number]) (h0 := [.cells ((cL cAffidavitref24_State) y959 ++ (cL cHeld) x1008.2)]) (h1 := [.cells ((cL cAffidavitref24_State) y959 ++ (cL cHeld) x1008.2)]) (h2 := [.cells ((cL cAffidavitref24_State) y959 ++ (cL cHeld) x1008.2)]) (H2 := [.cells ((cL cAffidavitref24_State) y959 ++ (cL cHeld) x1008.2)]) (v0 := .bool y1021) (v := .bool y1021) (r24_Book_Has_ev hy1021) (by kernel_rfl) (by kernel_rfl) (by kernel_rfl) (by kernel_rfl) (pl (b' := .cells ((cL cAffidavitref24_State) y959 ++ (cL cHeld) x1008.2)) (by kernel_rfl) (sb_cells (by kernel_rfl) (by kernel_rfl) (tights_app (tights_lows ((low_cL low_cAffidavitref24_State) _)) (tights_lows ((low_cL low_cHeld) _)))) pl_nil) (by kernel_rfl) rfl (sbs (sb_cells (by kernel_rfl) (by kernel_rfl) (tights_app (tights_lows ((low_cL low_cAffidavitref24_State) _)) (tights_lows ((low_cL low_cHeld) _)))) sbs_nil) (by kernel_rfl) (fun _ => rfl) ?_)
      refine w_run 8 [.cells ((cL cAffidavitref24_State) y959 ++ (cL cHeld) x1008.2)] rfl (by kernel_rfl) ?_
      refine w_end (by kernel_rfl) ?_
      refine then_n ?_
      refine go_same ?_
      refine ite_elim hF (fun hc6 hF => ?_) (fun hc6 hF => ?_)
      ·refine x_set 53 (b := false) (by kernel_rfl) (show (!y1021) = false by rw [hc6]; rfl) ?_
       refine x_cond (b0 := false) (by kernel_rfl) (by kernel_rfl) ?_
       refine x_skip (.inl (by kernel_rfl)) ?_
       refine block_n ?_
       refine then_n ?_
       exact x_to hJ20 (VS.same2 79228162514264328797425737628 (by kernel_rfl) (by kernel_rfl)) ⟨x1008.2, (some y1021), (some false), rfl, rfl, hF⟩
      ·refine x_set 53 (b := true) (by kernel_rfl) (show (!y1021) = true by rw [hc6]; rfl) ?_
       refine x_cond (b0 := true) (by kernel_rfl) (by kernel_rfl) ?_
       refine x_rows 0 4095 [⟨12, [], [], [], []⟩] call_ends callMono (by kernel_rfl) (by kernel_rfl) ?_
       refine w_pure 7 rfl (by kernel_rfl) ?_
       refine bind_elim hF (fun y1026 hy1026 hF => w_iaddr cHeld (sz := 2) hy1026 (by kernel_rfl) (by decide) len_cHeld ?_)
       refine w_elem cHeld 0 (t := 41) (v := .agg (cHeld y1026)) (sz := 2) (z := 2) hy1026 (by kernel_rfl) (by kernel_rfl) len_cHeld (by decide) (by decide) ?_
       refine bind_elim hF (fun y1027 hy1027 hF => w_pcallW (r24_put_ev hy1027) (by kernel_rfl) (lows_cons (low_sl low_cHeld) (lows_cons (low_agg (low_cHeld _)) rfl)) (low_sl low_cHeld) ?_)
       refine w_pure 12 rfl (by kernel_rfl) ?_
       refine w_end (by kernel_rfl) ?_
       refine rows_next ?_
       refine w_run 1 [.cells ((cL cAffidavitref24_State) y959 ++ (cL cHeld) y1027)] rfl (by kernel_rfl) ?_
       refine w_end (by kernel_rfl) ?_
       refine ⟨⟨(by kernel_rfl), trivial⟩, ?_⟩
       refine w_end (by kernel_rfl) ?_
       refine rows_done ?_
       refine ⟨_, _, VS.refl _ _ _, ?_⟩
       refine block_n ?_
       refine then_n ?_
       exact x_to hJ20 (VS.same2 79228162514264328797425737628 (by kernel_rfl) (by kernel_rfl)) ⟨y1027, (some y1021), (some true), rfl, rfl, hF⟩
    ·refine x_set 43 (b := false) (by kernel_rfl) hc5 ?_
     refine x_cond (b0 := false) (by kernel_rfl) (by kernel_rfl) ?_
     refine x_exit (by kernel_rfl) ?_
     refine then_e ?_
     refine then_e ?_
     refine block_e ?_
     refine block_n ?_
     refine then_n ?_
     exact x_back (VS.same2 79228162514250826794661838844 (by kernel_rfl) (by kernel_rfl)) ⟨(y959, x1008.2), (some (iGt (x953.1.l.length : Int) 1)), (some true), (some (iLe y957.N a0)), (some true), (some false), g981, g982, rfl, rfl, hF⟩
   ·refine x_set 24 (b := false) (by kernel_rfl) hc4 ?_
    refine x_cond (b0 := false) (by kernel_rfl) (by kernel_rfl) ?_
    refine x_exit (by kernel_rfl) ?_
    refine then_e ?_
    refine then_e ?_
    refine block_e ?_
    refine then_n ?_
    exact x_to hJ10 (VS.same2 79228162514250817998552039422 (by kernel_rfl) (by kernel_rfl)) ⟨x953.1, x953.2, (some (iGt (x953.1.l.length : Int) 1)), (some true), (some (iLe y957.N a0)), g865, g866, g867, rfl, rfl, hF⟩
  ·refine w_set 14 (b := false) (by kernel_rfl) hc3 ?_
   refine w_run 17 [.cells ((cL cAffidavitref24_State) x953.1 ++ (cL cHeld) x953.2)] rfl (by kernel_rfl) ?_
   refine w_end (by kernel_rfl) ?_
   refine then_n ?_
   refine go_same ?_
   refine x_cond (b0 := false) (by kernel_rfl) (by kernel_rfl) ?_
   refine x_exit (by kernel_rfl) ?_
   refine then_e ?_
   refine then_e ?_
   refine block_e ?_
   refine then_n ?_
   exact x_to hJ10 (VS.same2 79228162514250817998552039422 (by kernel_rfl) (by kernel_rfl)) ⟨x953.1, x953.2, (some (iGt (x953.1.l.length : Int) 1)), (some false), none, g865, g866, g867, rfl, rfl, hF⟩
def r01_Ints_J1  : Option Bool :=
 some true
def r01_Ints_B1083 (a0 : Sl Int) (a1 : Sl Int) (k1083 : Int → Option Bool) (x1083 : Int) : Option Bool :=
 if iLt x1083 (a0.l.length : Int) = true then (idxL a0.l x1083).bind fun y1090 => (idxL a1.l x1083).bind fun y1091 => if (y1090 != y1091) = true then some false else k1083 (iAdd .i64 x1083 1) else r01_Ints_J1
def r01_Ints (a0 : Sl Int) (a1 : Sl Int) : Option Bool :=
 if ((a0.l.length : Int) != (a1.l.length : Int)) = true then some false else loopN (r01_Ints_B1083 a0 a1) FUEL 0
theorem r01_Ints_ev {a0 : Sl Int} {a1 : Sl Int} {r : Bool} (hF : r01_Ints a0 a1 = some r) : EvCall Try.prog T G0 24 [sl (cI .i64) a0, sl (cI .i64) a1] [] (fun v H' => v = .bool r ∧ H' = []) := by
 refine x_call Try.func24 (by kernel_rfl) (by kernel_rfl) rfl ?_
 refine x_seq (by kernel_rfl) ?_
 refine x_region (by kernel_rfl) ?_
 refine w_run 1 [] rfl (by kernel_rfl) ?_
 refine w_end (by kernel_rfl) ?_
 refine then_n ?_
 refine go_same ?_
 refine x_seq (by kernel_rfl) ?_
 refine x_seq (by kernel_rfl) ?_
 refine x_region (by kernel_rfl) ?_
 refine w_run 5 [] rfl (by kernel_rfl) ?_
 refine w_end (by kernel_rfl) ?_
 refine then_n ?_
 refine go_same ?_
 refine ite_elim hF (fun hc1 hF => ?_) (fun hc1 hF => ?_)
 ·refine x_set 10 (b := true) (by kernel_rfl) hc1 ?_
  refine x_cond (b0 := true) (by kernel_rfl) (by kernel_rfl) ?_
  refine x_seq (by kernel_rfl) ?_
  refine x_region (by kernel_rfl) ?_
  refine w_run 1 [] rfl (by kernel_rfl) ?_
  refine w_end (by kernel_rfl) ?_
  refine then_n ?_
  refine go_same ?_
  refine x_ret (by kernel_rfl) ?_
  refine then_r ?_
  have e := Option.some.inj hF
  subst e
  exact fin_end (.inl rfl) (by kernel_rfl) (by kernel_rfl) (Nat.zero_le _) rfl (by kernel_rfl) ⟨rfl, rfl⟩
 ·refine x_set 10 (b := false) (by kernel_rfl) hc1 ?_
  refine x_cond (b0 := false) (by kernel_rfl) (by kernel_rfl) ?_
  refine x_skip (.inl (by kernel_rfl)) ?_
  refine then_n ?_
  refine go_same ?_
  refine x_join (fun fr H => ∃ (g1060 : Option Bool), fr = [.any, .any, .any, .any, .bool false, .any, .any, .any, .any, .any, .bool false, .any, .any, .any, .bool false, .any, .any, .any, .any, .any, .any, .any, .any, .any, .any, junkB g1060] ∧ H = [] ∧ r01_Ints_J1 = some r) (by kernel_rfl) (fun fr H ⟨g1060, e1, e2, hF⟩ => ?_) (fun hJ1 => ?_)
  ·subst e1 e2
   refine x_seq (by kernel_rfl) ?_
   refine x_region (by kernel_rfl) ?_
   refine w_run 1 [] rfl (by kernel_rfl) ?_
   refine w_end (by kernel_rfl) ?_
   refine then_n ?_
   refine go_same ?_
   refine x_ret (by kernel_rfl) ?_
   have e := Option.some.inj hF
   subst e
   exact fin_end (.inl rfl) (by kernel_rfl) (by kernel_rfl) (Nat.zero_le _) rfl (by kernel_rfl) ⟨rfl, rfl⟩
  ·refine x_seq (by kernel_rfl) ?_
   refine x_region (by kernel_rfl) ?_
   refine w_run 1 [] rfl (by kernel_rfl) ?_
   refine w_end (by kernel_rfl) ?_
   refine then_n ?_
   refine go_same ?_
   refine x_block (by kernel_rfl) ?_
   refine x_loop (fun d fr H => ∃ (x1083 : Int) (g1070 : Option Bool) (g1071 : Option Bool), fr = [sl (cI .i64) a0, sl (cI .i64) a1, .any, .any, .bool false, .int .i64 x1083, .any, .any, .any, .any, .bool false, .any, .any, .any, junkB g1070, .any, .any, .any, .any, .any, .any, .any, .any, .any, .any, junkB g1071] ∧ H = [] ∧ loopN (r01_Ints_B1083 a0 a1) d x1083 = some r) (by kernel_rfl) (fun fr H ⟨x1083, g1070, g1071, e1, e2, hF⟩ => loop_no hF) (fun d1083 fr H ⟨x1083, g1070, g1071, e1, e2, hF⟩ => ?_) (VS.same2 67107788 (by kernel_rfl) (by kernel_rfl)) ⟨0, none, none, rfl, rfl, hF⟩
   subst e1 e2
   have hF := loop_in hF
   refine x_seq (by kernel_rfl) ?_
   refine x_seq (by kernel_rfl) ?_
   refine x_region (by kernel_rfl) ?_
   refine w_run 4 [] rfl (by kernel_rfl) ?_
   refine w_end (by kernel_rfl) ?_
   refine then_n ?_
   refine go_same ?_
   refine ite_elim hF (fun hc2 hF => ?_) (fun hc2 hF => ?_)
   ·refine x_set 14 (b := true) (by kernel_rfl) hc2 ?_
    refine x_cond (b0 := true) (by kernel_rfl) (by kernel_rfl) ?_
    refine x_skip (.inl (by kernel_rfl)) ?_
    refine then_n ?_
    refine go_same ?_
    refine x_seq (by kernel_rfl) ?_
    refine x_block (by kernel_rfl) ?_
    refine x_seq (by kernel_rfl) ?_
    refine x_drawn 0 call_ends callMono (by kernel_rfl) (by kernel_rfl) ?_
    refine w_pure 2 rfl (by kernel_rfl) ?_
    refine bind_elim hF (fun y1090 hy1090 hF => w_iaddr (cI .i64) (sz := 1) hy1090 (by kernel_rfl) (by decide) (fun _ => rfl) ?_)
    refine w_elem (cI .i64) 0 (t := 3) (v := .int .i64 y1090) (sz := 1) (z := 1) hy1090 (by kernel_rfl) (by kernel_rfl) (fun _ => rfl) (by decide) (by decide) ?_
    refine w_pure 6 rfl (by kernel_rfl) ?_
    refine bind_elim hF (fun y1091 hy1091 hF => w_iaddr (cI .i64) (sz := 1) hy1091 (by kernel_rfl) (by decide) (fun _ => rfl) ?_)
    refine w_elem (cI .i64) 0 (t := 3) (v := .int .i64 y1091) (sz := 1) (z := 1) hy1091 (by kernel_rfl) (by kernel_rfl) (fun _ => rfl) (by decide) (by decide) ?_
    refine w_pure 9 rfl (by kernel_rfl) ?_
    refine w_end (by kernel_rfl) ?_
    refine ⟨_, _, VS.refl _ _ _, ?_⟩
    refine then_n ?_
    refine go_same ?_
    refine ite_elim hF (fun hc3 hF => ?_) (fun hc3 hF => ?_)
    ·refine x_set 25 (b := true) (by kernel_rfl) hc3 ?_
     refine x_cond (b0 := true) (by kernel_rfl) (by kernel_rfl) ?_
     refine x_seq (by kernel_rfl) ?_
     refine x_region (by kernel_rfl) ?_
     refine w_run 1 [] rfl (by kernel_rfl) ?_
     refine w_end (by kernel_rfl) ?_
     refine then_n ?_
     refine go_same ?_
     refine x_ret (by kernel_rfl) ?_
     refine block_r ?_
     refine then_r ?_
     refine then_r ?_
     refine block_r ?_
     refine then_r ?_
     have e := Option.some.inj hF
     subst e
     exact fin_end (.inl rfl) (by kernel_rfl) (by kernel_rfl) (Nat.zero_le _) rfl (by kernel_rfl) ⟨rfl, rfl⟩
    ·refine x_set 25 (b := false) (by kernel_rfl) hc3 ?_
     refine x_cond (b0 := false) (by kernel_rfl) (by kernel_rfl) ?_
     refine x_skip (.inl (by kernel_rfl)) ?_
     refine block_n ?_
     refine then_n ?_
     refine go_same ?_
     refine x_region (by kernel_rfl) ?_
     refine w_run 3 [] rfl (by kernel_rfl) ?_
     refine w_end (by kernel_rfl) ?_
     refine then_n ?_
     exact x_back (VS.same2 67107788 (by kernel_rfl) (by kernel_rfl)) ⟨iAdd .i64 x1083 1, (some true), (some false), rfl, rfl, hF⟩
   ·refine x_set 14 (b := false) (by kernel_rfl) hc2 ?_
    refine x_cond (b0 := false) (by kernel_rfl) (by kernel_rfl) ?_
    refine x_exit (by kernel_rfl) ?_
    refine then_e ?_
    refine then_e ?_
    refine block_e ?_
    refine then_n ?_
    exact x_to hJ1 (VS.same2 33537007 (by kernel_rfl) (by kernel_rfl)) ⟨g1071, rfl, rfl, hF⟩
def prune_plain_J4  : Option Bool :=
 some true
def prune_plain_J7 (k1299 : Int → Option Bool) (x1299 : Int) : Option Bool :=
 k1299 (iAdd .i64 x1299 1)
def prune_plain_B1299 (a0 : Sl Held) (k1299 : Int → Option Bool) (x1299 : Int) : Option Bool :=
 if iLt x1299 (a0.l.length : Int) = true then (idxL a0.l x1299).bind fun y1315 => if iLt y1315.Number 0 = true then some false else if iGt y1315.Number 1099511627776 = true then some false else if iLt y1315.Size 0 = true then some false else if iGt y1315.Size 4096 = true then some false else if iGt x1299 0 = true then (idxL a0.l (iSub .i64 x1299 1)).bind fun y1319 => if iLe y1315.Number y1319.Number = true then some false else prune_plain_J7 k1299 x1299 else prune_plain_J7 k1299 x1299 else prune_plain_J4
def prune_plain (a0 : Sl Held) : Option Bool :=
 loopN (prune_plain_B1299 a0) FUEL 0
theorem prune_plain_ev {a0 : Sl Held} {r : Bool} (hF : prune_plain a0 = some r) : EvCall Try.prog T G0 33 [sl cHeld a0] [] (fun v H' => v = .bool r ∧ H' = []) := by
 refine x_call Try.func33 (by kernel_rfl) (by kernel_rfl) rfl ?_
 refine x_seq (by kernel_rfl) ?_
 refine x_region (by kernel_rfl) ?_
 refine w_run 1 [] rfl (by kernel_rfl) ?_
 refine w_end (by kernel_rfl) ?_
 refine then_n ?_
 refine go_same ?_
 refine x_join (fun fr H => ∃ (g1207 : Option Bool) (g1208 : Option Bool) (g1209 : Option Bool) (g1210 : Option Bool) (g1211 : Option Bool) (g1212 : Option Bool) (g1213 : Option Bool) (g1214 : Option Bool) (g1215 : Option Bool) (g1216 : Option Bool) (g1217 : Option Bool) (g1218 : Option Bool) (g1219 : Option Bool) (g1220 : Option Bool) (g1221 : Option Bool) (g1222 : Option Bool), fr = [.any, .any, .bool false, .any, .any, .any, .any, .any, .bool false, .any, .any, .any, .any, .any, junkB g1207, junkB g1208, .any, .any, junkB g1209, junkB g1210, junkB g1211, .any, .any, junkB g1212, junkB g1213, junkB g1214, .any, .any, junkB g1215, junkB g1216, junkB g1217, .any, junkB g1218, junkB g1219, .any, .any, .any, .any, .any, .any, .any, .any, junkB g1220, junkB g1221, junkB g1222, .any] ∧ H = [] ∧ prune_plain_J4 = some r) (by kernel_rfl) (fun fr H ⟨g1207, g1208, g1209, g1210, g1211, g1212, g1213, g1214, g1215, g1216, g1217, g1218, g1219, g1220, g1221, g1222, e1, e2, hF⟩ => ?_) (fun hJ4 => ?_)
 ·subst e1 e2
  refine x_seq (by kernel_rfl) ?_
  refine x_region (by kernel_rfl) ?_
  refine w_run 1 [] rfl (by kernel_rfl) ?_
  refine w_end (by kernel_rfl) ?_
  refine then_n ?_
  refine go_same ?_
  refine x_ret (by kernel_rfl) ?_
  have e := Option.some.inj hF
  subst e
  exact fin_end (.inl rfl) (by kernel_rfl) (by kernel_rfl) (Nat.zero_le _) rfl (by kernel_rfl) ⟨rfl, rfl⟩
 ·refine x_seq (by kernel_rfl) ?_
  refine x_region (by kernel_rfl) ?_
  refine w_run 3 [] rfl (by kernel_rfl) ?_
  refine w_end (by kernel_rfl) ?_
  refine then_n ?_
  refine go_same ?_
  refine x_block (by kernel_rfl) ?_
  refine x_loop (fun d fr H => ∃ (x1299 : Int) (g1244 : Option Bool) (g1245 : Option Bool) (g1246 : Option Bool) (g1247 : Option Bool) (g1248 : Option Bool) (g1249 : Option Bool) (g1250 : Option Bool) (g1251 : Option Bool) (g1252 : Option Bool) (g1253 : Option Bool) (g1254 : Option Bool) (g1255 : Option Bool) (g1256 : Option Bool) (g1257 : Option Bool) (g1258 : Option Bool) (g1259 : Option Bool) (g1260 : Option Bool), fr = [sl cHeld a0, .any, .bool false, .any, .any, sl cHeld a0, .int .i64 (a0.l.length : Int), .int .i64 x1299, junkB g1244, .any, .any, .any, .any, .any, junkB g1245, junkB g1246, .any, .any, junkB g1247, junkB g1248, junkB g1249, .any, .any, junkB g1250, junkB g1251, junkB g1252, .any, .any, junkB g1253, junkB g1254, junkB g1255, .any, junkB g1256, junkB g1257, .any, .any, .any, .any, .any, .any, .any, .any, junkB g1258, junkB g1259, junkB g1260, .any] ∧ H = [] ∧ loopN (prune_plain_B1299 a0) d x1299 = some r) (by kernel_rfl) (fun fr H ⟨x1299, g1244, g1245, g1246, g1247, g1248, g1249, g1250, g1251, g1252, g1253, g1254, g1255, g1256, g1257, g1258, g1259, g1260, e1, e2, hF⟩ => loop_no hF) (fun d1299 fr H ⟨x1299, g1244, g1245, g1246, g1247, g1248, g1249, g1250, g1251, g1252, g1253, g1254, g1255, g1256, g1257, g1258, g1259, g1260, e1, e2, hF⟩ => ?_) (VS.same2 70368744177434 (by kernel_rfl) (by kernel_rfl)) ⟨0, none, none, none, none, none, none, none, none, none, none, none, none, none, none, none, none, none, rfl, rfl, hF⟩
  subst e1 e2
  have hF := loop_in hF
  refine x_seq (by kernel_rfl) ?_
  refine x_region (by kernel_rfl) ?_
  refine w_run 1 [] rfl (by kernel_rfl) ?_
  refine w_end (by kernel_rfl) ?_
  refine then_n ?_
  refine go_same ?_
  refine x_seq (by kernel_rfl) ?_
  refine ite_elim hF (fun hc1 hF => ?_) (fun hc1 hF => ?_)
  ·refine x_set 8 (b := true) (by kernel_rfl) hc1 ?_
   refine x_cond (b0 := true) (by kernel_rfl) (by kernel_rfl) ?_
   refine x_skip (.inl (by kernel_rfl)) ?_
   refine then_n ?_
   refine go_same ?_
   refine x_join (fun fr H => ∃ (g1305 : Option Bool) (g1306 : Option Bool) (g1307 : Option Bool) (g1308 : Option Bool) (g1309 : Option Bool) (g1310 : Option Bool) (g1311 : Option Bool) (g1312 : Option Bool) (g1313 : Option Bool) (g1314 : Option Bool), fr = [sl cHeld a0, .any, .bool false, .any, .any, sl cHeld a0, .int .i64 (a0.l.length : Int), .int .i64 x1299, .bool true, .any, .any, .any, .any, .any, junkB g1305, .bool false, .any, .any, junkB g1306, junkB g1307, .bool false, .any, .any, junkB g1308, junkB g1309, .bool false, .any, .any, junkB g1310, junkB g1311, .bool false, .any, .bool (iGt x1299 0), junkB g1312, .any, .any, .any, .any, .any, .any, .any, .any, junkB g1313, junkB g1314, .bool false, .any] ∧ H = [] ∧ prune_plain_J7 (loopN (prune_plain_B1299 a0) d1299) x1299 = some r) (by kernel_rfl) (fun fr H ⟨g1305, g1306, g1307, g1308, g1309, g1310, g1311, g1312, g1313, g1314, e1, e2, hF⟩ => ?_) (fun hJ7 => ?_)
   ·subst e1 e2
    refine x_region (by kernel_rfl) ?_
    refine w_run 2 [] rfl (by kernel_rfl) ?_
    refine w_end (by kernel_rfl) ?_
    refine then_n ?_
    exact x_back (VS.same2 57165183434522 (by kernel_rfl) (by kernel_rfl)) ⟨iAdd .i64 x1299 1, (some true), g1305, (some false), g1306, g1307, (some false), g1308, g1309, (some false), g1310, g1311, (some false), (some (iGt x1299 0)), g1312, g1313, g1314, (some false), rfl, rfl, hF⟩
   ·refine x_block (by kernel_rfl) ?_
    refine x_seq (by kernel_rfl) ?_
    refine x_region (by kernel_rfl) ?_
    refine w_run 1 [] rfl (by kernel_rfl) ?_
    refine bind_elim hF (fun y1315 hy1315 hF => w_iaddr cHeld (sz := 2) hy1315 (by kernel_rfl) (by decide) len_cHeld ?_)
    refine w_elem cHeld 0 (t := 41) (v := .agg (cHeld y1315)) (sz := 2) (z := 2) hy1315 (by kernel_rfl) (by kernel_rfl) len_cHeld (by decide) (by decide) ?_
    refine w_run 6 [.cells (cHeld y1315)] rfl (by kernel_rfl) ?_
    refine w_end (by kernel_rfl) ?_
    refine then_n ?_
    refine go_same ?_
    refine x_seq (by kernel_rfl) ?_
    refine x_drawn 0 call_ends callMono (by kernel_rfl) (by kernel_rfl) ?_
    refine w_pure 4 rfl (by kernel_rfl) ?_
    refine ite_elim hF (fun hc2 hF => ?_) (fun hc2 hF => ?_)
    ·refine w_set 15 (b := true) (by kernel_rfl) hc2 ?_
     refine w_pure 33 rfl (by kernel_rfl) ?_
     refine w_end (by kernel_rfl) ?_
     refine ⟨_, _, VS.refl _ _ _, ?_⟩
     refine then_n ?_
     refine go_same ?_
     refine x_cond (b0 := true) (by kernel_rfl) (by kernel_rfl) ?_
     refine x_seq (by kernel_rfl) ?_
     refine x_region (by kernel_rfl) ?_
     refine w_run 1 [.cells (cHeld y1315)] rfl (by kernel_rfl) ?_
     refine w_end (by kernel_rfl) ?_
     refine then_n ?_
     refine go_same ?_
     refine x_ret (by kernel_rfl) ?_
     refine block_r ?_
     refine then_r ?_
     refine then_r ?_
     refine block_r ?_
     refine then_r ?_
     have e := Option.some.inj hF
     subst e
     exact fin_end (.inl rfl) (by kernel_rfl) (by kernel_rfl) (Nat.zero_le _) rfl (by kernel_rfl) ⟨rfl, rfl⟩
    ·refine w_set 15 (b := false) (by kernel_rfl) hc2 ?_
     refine w_pure 9 rfl (by kernel_rfl) ?_
     refine ite_elim hF (fun hc3 hF => ?_) (fun hc3 hF => ?_)
     ·refine w_set 20 (b := true) (by kernel_rfl) hc3 ?_
      refine w_pure 33 rfl (by kernel_rfl) ?_
      refine w_end (by kernel_rfl) ?_
      refine ⟨_, _, VS.refl _ _ _, ?_⟩
      refine then_n ?_
      refine go_same ?_
      refine x_cond (b0 := true) (by kernel_rfl) (by kernel_rfl) ?_
      refine x_seq (by kernel_rfl) ?_
      refine x_region (by kernel_rfl) ?_
      refine w_run 1 [.cells (cHeld y1315)] rfl (by kernel_rfl) ?_
      refine w_end (by kernel_rfl) ?_
      refine then_n ?_
      refine go_same ?_
      refine x_ret (by kernel_rfl) ?_
      refine block_r ?_
      refine then_r ?_
      refine then_r ?_
      refine block_r ?_
      refine then_r ?_
      have e := Option.some.inj hF
      subst e
      exact fin_end (.inl rfl) (by kernel_rfl) (by kernel_rfl) (Nat.zero_le _) rfl (by kernel_rfl) ⟨rfl, rfl⟩
     ·refine w_set 20 (b := false) (by kernel_rfl) hc3 ?_
      refine w_pure 14 rfl (by kernel_rfl) ?_
      refine ite_elim hF (fun hc4 hF => ?_) (fun hc4 hF => ?_)
      ·refine w_set 25 (b := true) (by kernel_rfl) hc4 ?_
       refine w_pure 33 rfl (by kernel_rfl) ?_
       refine w_end (by kernel_rfl) ?_
       refine ⟨_, _, VS.refl _ _ _, ?_⟩
       refine then_n ?_
       refine go_same ?_
       refine x_cond (b0 := true) (by kernel_rfl) (by kernel_rfl) ?_
       refine x_seq (by kernel_rfl) ?_
       refine x_region (by kernel_rfl) ?_
       refine w_run 1 [.cells (cHeld y1315)] rfl (by kernel_rfl) ?_
       refine w_end (by kernel_rfl) ?_
       refine then_n ?_
       refine go_same ?_
       refine x_ret (by kernel_rfl) ?_
       refine block_r ?_
       refine then_r ?_
       refine then_r ?_
       refine block_r ?_
       refine then_r ?_
       have e := Option.some.inj hF
       subst e
       exact fin_end (.inl rfl) (by kernel_rfl) (by kernel_rfl) (Nat.zero_le _) rfl (by kernel_rfl) ⟨rfl, rfl⟩
      ·refine w_set 25 (b := false) (by kernel_rfl) hc4 ?_
       refine w_pure 19 rfl (by kernel_rfl) ?_
       refine ite_elim hF (fun hc5 hF => ?_) (fun hc5 hF => ?_)
       ·refine w_set 30 (b := true) (by kernel_rfl) hc5 ?_
        refine w_pure 33 rfl (by kernel_rfl) ?_
        refine w_end (by kernel_rfl) ?_
        refine ⟨_, _, VS.refl _ _ _, ?_⟩
        refine then_n ?_
        refine go_same ?_
        refine x_cond (b0 := true) (by kernel_rfl) (by kernel_rfl) ?_
        refine x_seq (by kernel_rfl) ?_
        refine x_region (by kernel_rfl) ?_
        refine w_run 1 [.cells (cHeld y1315)] rfl (by kernel_rfl) ?_
        refine w_end (by kernel_rfl) ?_
        refine then_n ?_
        refine go_same ?_
        refine x_ret (by kernel_rfl) ?_
        refine block_r ?_
        refine then_r ?_
        refine then_r ?_
        refine block_r ?_
        refine then_r ?_
        have e := Option.some.inj hF
        subst e
        exact fin_end (.inl rfl) (by kernel_rfl) (by kernel_rfl) (Nat.zero_le _) rfl (by kernel_rfl) ⟨rfl, rfl⟩
       ·refine w_set 30 (b := false) (by kernel_rfl) hc5 ?_
        refine w_pure 22 rfl (by kernel_rfl) ?_
        refine ite_elim hF (fun hc6 hF => ?_) (fun hc6 hF => ?_)
        ·refine w_set 33 (b := true) (by kernel_rfl) hc6 ?_
         refine w_pure 27 rfl (by kernel_rfl) ?_
         refine bind_elim hF (fun y1319 hy1319 hF => w_iaddr cHeld (sz := 2) hy1319 (by kernel_rfl) (by decide) len_cHeld ?_)
         refine w_pure 29 rfl (by kernel_rfl) ?_
         refine w_elem cHeld 0 (t := 3) (v := .int .i64 y1319.Number) (sz := 2) (z := 1) hy1319 (by kernel_rfl) (by kernel_rfl) len_cHeld (by decide) (by decide) ?_
         refine w_pure 33 rfl (by kernel_rfl) ?_
         refine w_end (by kernel_rfl) ?_
         refine ⟨_, _, VS.refl _ _ _, ?_⟩
         refine then_n ?_
         refine go_same ?_
         refine ite_elim hF (fun hc7 hF => ?_) (fun hc7 hF => ?_)
         ·refine x_set 44 (b := true) (by kernel_rfl) hc7 ?_
          refine x_cond (b0 := true) (by kernel_rfl) (by kernel_rfl) ?_
          refine x_seq (by kernel_rfl) ?_
          refine x_region (by kernel_rfl) ?_
          refine w_run 1 [.cells (cHeld y1315)] rfl (by kernel_rfl) ?_
          refine w_end (by kernel_rfl) ?_
          refine then_n ?_
          refine go_same ?_
          refine x_ret (by kernel_rfl) ?_
          refine block_r ?_
          refine then_r ?_
          refine then_r ?_
          refine block_r ?_
          refine then_r ?_
          have e := Option.some.inj hF
          subst e
          exact fin_end (.inl rfl) (by kernel_rfl) (by kernel_rfl) (Nat.zero_le _) rfl (by kernel_rfl) ⟨rfl, rfl⟩
         ·refine x_set 44 (b := false) (by kernel_rfl) hc7 ?_
          refine x_cond (b0 := false) (by kernel_rfl) (by kernel_rfl) ?_
          refine x_skip (.inl (by kernel_rfl)) ?_
          refine block_n ?_
          refine then_n ?_
          exact x_to hJ7 (VS.sh [] 52771154787866 (by kernel_rfl) (by kernel_rfl) (by kernel_rfl) (tights_at [0, 5] (by kernel_rfl) (by exact ⟨(tight_sl low_cHeld), (tight_sl low_cHeld), trivial⟩)) shh_nil) ⟨(some (iLt y1315.Number 0)), (some (iGt y1315.Number 1099511627776)), (some (iGt y1315.Number 1099511627776)), (some (iLt y1315.Size 0)), (some (iLt y1315.Size 0)), (some (iGt y1315.Size 4096)), (some (iGt y1315.Size 4096)), (some true), (some (iLe y1315.Number y1319.Number)), (some (iLe y1315.Number y1319.Number)), rfl, rfl, hF⟩
        ·refine w_set 33 (b := false) (by kernel_rfl) hc6 ?_
         refine w_pure 33 rfl (by kernel_rfl) ?_
         refine w_end (by kernel_rfl) ?_
         refine ⟨_, _, VS.refl _ _ _, ?_⟩
         refine then_n ?_
         refine go_same ?_
         refine x_cond (b0 := false) (by kernel_rfl) (by kernel_rfl) ?_
         refine x_skip (.inl (by kernel_rfl)) ?_
         refine block_n ?_
         refine then_n ?_
         exact x_to hJ7 (VS.sh [] 52771154787866 (by kernel_rfl) (by kernel_rfl) (by kernel_rfl) (tights_at [0, 5] (by kernel_rfl) (by exact ⟨(tight_sl low_cHeld), (tight_sl low_cHeld), trivial⟩)) shh_nil) ⟨(some (iLt y1315.Number 0)), (some (iGt y1315.Number 1099511627776)), (some (iGt y1315.Number 1099511627776)), (some (iLt y1315.Size 0)), (some (iLt y1315.Size 0)), (some (iGt y1315.Size 4096)), (some (iGt y1315.Size 4096)), (some false), none, (some false), rfl, rfl, hF⟩
  ·refine x_set 8 (b := false) (by kernel_rfl) hc1 ?_
   refine x_cond (b0 := false) (by kernel_rfl) (by kernel_rfl) ?_
   refine x_exit (by kernel_rfl) ?_
   refine then_e ?_
   refine then_e ?_
   refine block_e ?_
   refine then_n ?_
   exact x_to hJ4 (VS.same2 39567594045179 (by kernel_rfl) (by kernel_rfl)) ⟨g1245, g1246, g1247, g1248, g1249, g1250, g1251, g1252, g1253, g1254, g1255, g1256, g1257, g1258, g1259, g1260, rfl, rfl, hF⟩
end Go.Proofs.Ytbdomlbmbcnaeaa
