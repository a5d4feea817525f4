/- What each function of these laws comes to. Printed by main.py; no conditions. -/
import Derived.Test.YtbdomlbmbcnaeaaSort
import Derived.Test.YtbdomlbmbcnaeaaAwk
import Derived.Test.YtbdomlbmbcnaeaaAbnC
namespace Go.Proofs.Ytbdomlbmbcnaeaa
open Go.Abs
set_option maxRecDepth 100000
attribute [local irreducible] ev evAt evW evList evOp evRes EvCall VS aop aload astore AX.then AX.inBlock kRun kRunQ aput evRows
set_option linter.unusedVariables false
structure Affidavitlaw24_Act where
  Kind : Int
  N : Int
  L : Sl Held
def cAffidavitlaw24_Act (x : Affidavitlaw24_Act) : List AV := (cI .i64) x.Kind ++ (cI .i64) x.N ++ (cL cHeld) x.L
theorem low_cAffidavitlaw24_Act {n : Nat} (x : Affidavitlaw24_Act) : lows n (cAffidavitlaw24_Act x) = true := (lows_app (lows_app (low_cI _) (low_cI _)) ((low_cL low_cHeld) _))
theorem len_cAffidavitlaw24_Act (x : Affidavitlaw24_Act) : (cAffidavitlaw24_Act x).length = 3 := by kernel_rfl
structure Prune_state where
  number : Int
  l : Sl Held
def cPrune_state (x : Prune_state) : List AV := (cI .i64) x.number ++ (cL cHeld) x.l
theorem low_cPrune_state {n : Nat} (x : Prune_state) : lows n (cPrune_state x) = true := (lows_app (low_cI _) ((low_cL low_cHeld) _))
theorem len_cPrune_state (x : Prune_state) : (cPrune_state x).length = 2 := by kernel_rfl
structure Prune_Book where
  l : Sl Prune_state
  dead : Sl Held
def cPrune_Book (x : Prune_Book) : List AV := (cL cPrune_state) x.l ++ (cL cHeld) x.dead
structure Affidavitref24_State where
  N : Int
  L : Sl Held
def cAffidavitref24_State (x : Affidavitref24_State) : List AV := (cI .i64) x.N ++ (cL cHeld) x.L
theorem low_cAffidavitref24_State {n : Nat} (x : Affidavitref24_State) : lows n (cAffidavitref24_State x) = true := (lows_app (low_cI _) ((low_cL low_cHeld) _))
theorem len_cAffidavitref24_State (x : Affidavitref24_State) : (cAffidavitref24_State x).length = 2 := by kernel_rfl
structure Affidavitref24_Book where
  L : Sl Affidavitref24_State
  Dead : Sl Held
def cAffidavitref24_Book (x : Affidavitref24_Book) : List AV := (cL cAffidavitref24_State) x.L ++ (cL cHeld) x.Dead
def prune_New  : Option ((Sl Prune_state) × (Sl Held)) :=
  some ((⟨true, true, []⟩ : Sl Prune_state), (⟨true, true, []⟩ : Sl Held))
theorem prune_New_ev {r : (Sl Prune_state) × (Sl Held)} (hF : prune_New = some r) : EvCall Try.prog T G0 8 [] [] (fun v H' => v = .ptr 0 0 ∧ H' = [.cells ((cL cPrune_state) r.1 ++ (cL cHeld) r.2)]) := by
 refine xc Try.func8 ?_
 refine xq ?_
 refine wh 1 ?_
 refine we ?_
 refine ng ?_
 refine xq ?_
 refine wr 3 [.cells (cPrune_Book (⟨(⟨true, true, []⟩ : Sl Prune_state), (⟨true, true, []⟩ : Sl Held)⟩ : Prune_Book))] ?_
 refine we ?_
 refine ng ?_
 refine xt ?_
 have e := Option.some.inj hF
 subst e
 exact fS [0] (.inl rfl) rfl (shh (b0 := .cells (cPrune_Book (⟨(⟨true, true, []⟩ : Sl Prune_state), (⟨true, true, []⟩ : Sl Held)⟩ : Prune_Book))) (by kernel_rfl) (shb_cells (by kernel_rfl) (by kernel_rfl) (tights_app (tights_lows ((low_cL low_cPrune_state) _)) (tights_lows ((low_cL low_cHeld) _)))) shh_nil) ⟨rfl, rfl⟩
def prune_NewR : Option Unit := (prune_New).bind fun _ => some ()
theorem prune_NewR_ev {r : Unit} (hF : prune_NewR = some r) : EvCall Try.prog T G0 8 [] [] (fun v H' => v = .ptr 0 0 ∧ H' = [.cells ([sl cPrune_state ⟨true, true, []⟩] ++ [rfv false (⟨true, true, []⟩ : Sl Held) 1 2]), rfb cHeld ⟨true, true, []⟩]) := by
  refine bind_elim hF fun y hy _ => ?_
  have e : y = ((⟨true, true, []⟩ : Sl _), (⟨true, true, []⟩ : Sl _)) := (Option.some.inj hy).symm
  subst e
  refine EvCall.vs (prune_New_ev hy) ?_
  rintro r H1 ⟨rfl, rfl⟩
  exact ⟨_, _, VS.thawC cHeld 0 1 2 rfl rfl, rfl, rfl⟩
def l24_few (a0 : Sl Held) : Option Bool :=
  some (iLe (a0.l.length : Int) 300)
theorem l24_few_ev {a0 : Sl Held} {r : Bool} (hF : l24_few a0 = some r) : EvCall Try.prog T G0 10 [sl cHeld a0] [] (fun v H' => v = .bool r ∧ H' = []) := by
 refine xc Try.func10 ?_
 refine xq ?_
 refine wh 1 ?_
 refine we ?_
 refine ng ?_
 refine xq ?_
 refine wh 4 ?_
 refine we ?_
 refine ng ?_
 refine xt ?_
 have e := Option.some.inj hF
 subst e
 exact fE [] (.inl rfl) rfl ⟨rfl, rfl⟩
def prune_Book_sizes_J4 (p147 : Mp Int Int) : Option (Mp Int Int) :=
  some p147
def prune_Book_sizes_J7 (k215 : ((Mp Int Int) × Int) → Option (Mp Int Int)) (x215 : (Mp Int Int) × Int) (p230 : Mp Int Int) : Option (Mp Int Int) :=
  k215 (p230, iAdd .i64 x215.2 1)
def prune_Book_sizes_B242 (k215 : ((Mp Int Int) × Int) → Option (Mp Int Int)) (x215 : (Mp Int Int) × Int) (y231 : Prune_state) (k242 : ((Mp Int Int) × Int) → Option (Mp Int Int)) (x242 : (Mp Int Int) × Int) : Option (Mp Int Int) :=
  if iLt x242.2 (y231.l.l.length : Int) = true then (idxL y231.l.l x242.2).bind fun y244 => k242 (Mp.put x242.1 y244.Number (iAdd .i64 y244.Size 1), iAdd .i64 x242.2 1) else prune_Book_sizes_J7 k215 x215 x242.1
def prune_Book_sizes_B215 (a0 : Sl Prune_state) (k215 : ((Mp Int Int) × Int) → Option (Mp Int Int)) (x215 : (Mp Int Int) × Int) : Option (Mp Int Int) :=
  if iLt x215.2 (a0.l.length : Int) = true then (idxL a0.l x215.2).bind fun y231 => loopN (prune_Book_sizes_B242 k215 x215 y231) FUEL (x215.1, 0) else prune_Book_sizes_J4 x215.1
def prune_Book_sizes (a0 : Sl Prune_state) (a1 : Sl Held) : Option (Mp Int Int) :=
  loopN (prune_Book_sizes_B215 a0) FUEL (Mp.none, 0)
theorem prune_Book_sizes_ev {a0 : Sl Prune_state} {a1 : Sl Held} {r : (Mp Int Int)} (hF : prune_Book_sizes a0 a1 = some r) : EvCall Try.prog T G0 26 [.ptr 0 0] [.cells ((cL cPrune_state) a0 ++ [rfv false a1 1 2]), rfb cHeld a1] (fun v H' => v = .map 2 ∧ H' = [.cells ((cL cPrune_state) a0 ++ [rfv false a1 1 2]), rfb cHeld a1, mpb (AV.int .i64) (AV.int .i64) r]) := by
 refine xc Try.func26 ?_
 refine xq ?_
 refine wh 1 ?_
 refine we ?_
 refine ng ?_
 refine xq ?_
 refine wr 2 [.cells ((cL cPrune_state) a0 ++ [rfv false a1 1 2]), rfb cHeld a1, mpb (AV.int .i64) (AV.int .i64) Mp.none] ?_
 refine we ?_
 refine ng ?_
 refine xj (fun fr H => ∃ (p147 : Mp Int Int) (g148 : Option Bool), fr = [.any, .any, .any, .map 2, .any, .any, .any, .any, .any, .any, .any, .any, .any, .any, .any, .bool false, .any, .any, .any, .any, .any, .any, junkB g148, .any, .any, .any, .any, .any, .any, .any, .any, .any, .any, .any] ∧ H = [.cells ((cL cPrune_state) a0 ++ [rfv false a1 1 2]), rfb cHeld a1, mpb (AV.int .i64) (AV.int .i64) p147] ∧ prune_Book_sizes_J4 p147 = some r) (fun fr H ⟨p147, g148, e1, e2, hF⟩ => ?_) (fun hJ4 => ?_)
 ·subst e1 e2
  refine xq ?_
  refine wh 2 ?_
  refine we ?_
  refine ng ?_
  refine xt ?_
  have e := Option.some.inj hF
  subst e
  exact fS [0, 1, 2] (.inl rfl) rfl (shh (b0 := .cells ((cL cPrune_state) a0 ++ [rfv false a1 1 2])) (by kernel_rfl) (shb_cells (by kernel_rfl) (by kernel_rfl) (tights_app (tights_lows ((low_cL low_cPrune_state) _)) (tights_cons rfl rfl))) (shh (b0 := rfb cHeld a1) (by kernel_rfl) (NoRef.shb (noref_rfb low_cHeld _)) (shh (b0 := mpb (AV.int .i64) (AV.int .i64) p147) (by kernel_rfl) (NoRef.shb (noref_mpb (fun _ => rfl) (fun _ => rfl) _)) shh_nil))) ⟨rfl, rfl⟩
 refine xq ?_
 refine wh 6 ?_
 refine we ?_
 refine ng ?_
 refine xb ?_
 refine x_loop (fun d fr H => ∃ (x215 : (Mp Int Int) × Int) (g180 : Option Bool) (g181 : Option Bool), fr = [.any, .any, .any, .map 2, .any, .any, .any, .any, .any, .any, .any, .any, sl cPrune_state a0, .int .i64 (a0.l.length : Int), .int .i64 x215.2, junkB g180, .any, .any, .any, .any, .any, .any, junkB g181, .any, .any, .any, .any, .any, .any, .any, .any, .any, .any, .any] ∧ H = [.cells ((cL cPrune_state) a0 ++ [rfv false a1 1 2]), rfb cHeld a1, mpb (AV.int .i64) (AV.int .i64) x215.1] ∧ loopN (prune_Book_sizes_B215 a0) d x215 = some r) (by kernel_rfl) (fun fr H ⟨x215, g180, g181, e1, e2, hF⟩ => loop_no hF) (fun d215 fr H ⟨x215, g180, g181, e1, e2, hF⟩ => ?_) (VS.sm 17179840503) ⟨(Mp.none, 0), none, none, rfl, rfl, hF⟩
 subst e1 e2
 have hF := loop_in hF
 refine xq ?_
 refine wh 1 ?_
 refine we ?_
 refine ng ?_
 refine xs ?_
 refine ite_elim hF (fun hc1 hF => ?_) (fun hc1 hF => ?_)
 ·refine kT 15 hc1 ?_
  refine xT ?_
  refine xk ?_
  refine ng ?_
  refine xj (fun fr H => ∃ (p230 : Mp Int Int), fr = [.any, .any, .any, .map 2, .any, .any, .any, .any, .any, .any, .any, .any, sl cPrune_state a0, .int .i64 (a0.l.length : Int), .int .i64 x215.2, .bool true, .any, .any, .any, .any, .any, .any, .bool false, .any, .any, .any, .any, .any, .any, .any, .any, .any, .any, .any] ∧ H = [.cells ((cL cPrune_state) a0 ++ [rfv false a1 1 2]), rfb cHeld a1, mpb (AV.int .i64) (AV.int .i64) p230] ∧ prune_Book_sizes_J7 (loopN (prune_Book_sizes_B215 a0) d215) x215 p230 = some r) (fun fr H ⟨p230, e1, e2, hF⟩ => ?_) (fun hJ7 => ?_)
  ·subst e1 e2
   refine xr ?_
   refine wh 2 ?_
   refine we ?_
   refine then_n ?_
   exact x_back (VS.sm 17179840503) ⟨(p230, iAdd .i64 x215.2 1), (some true), (some false), rfl, rfl, hF⟩
  refine xb ?_
  refine xq ?_
  refine bind_elim hF (fun y231 hy231 hF => uI cPrune_state 2 hy231 len_cPrune_state ?_)
  refine uE cPrune_state 0 (t := 63) (v := .agg (cPrune_state y231)) 2 2 hy231 len_cPrune_state ?_
  refine wr 4 [.cells ((cL cPrune_state) a0 ++ [rfv false a1 1 2]), rfb cHeld a1, mpb (AV.int .i64) (AV.int .i64) x215.1, .cells (cPrune_state y231)] ?_
  refine we ?_
  refine ng ?_
  refine xq ?_
  refine wh 4 ?_
  refine we ?_
  refine ng ?_
  refine xb ?_
  refine x_loop (fun d fr H => ∃ (x242 : (Mp Int Int) × Int) (g236 : Option Bool), fr = [.any, .any, .any, .map 2, .any, .any, .any, .any, .any, .any, .any, .any, sl cPrune_state a0, .int .i64 (a0.l.length : Int), .int .i64 x215.2, .bool true, .any, .any, .any, sl cHeld y231.l, .int .i64 (y231.l.l.length : Int), .int .i64 x242.2, junkB g236, .any, .any, .any, .any, .any, .any, .any, .any, .any, .any, .any] ∧ H = [.cells ((cL cPrune_state) a0 ++ [rfv false a1 1 2]), rfb cHeld a1, mpb (AV.int .i64) (AV.int .i64) x242.1] ∧ loopN (prune_Book_sizes_B242 (loopN (prune_Book_sizes_B215 a0) d215) x215 y231) d x242 = some r) (by kernel_rfl) (fun fr H ⟨x242, g236, e1, e2, hF⟩ => loop_no hF) (fun d242 fr H ⟨x242, g236, e1, e2, hF⟩ => ?_) (VS.shX [0, 1, 2] 17171943415 [22] (by kernel_rfl) (by kernel_rfl) (by kernel_rfl) (by exact ⟨low_junk g181, trivial⟩) (tights_at [12, 19, 22] (by kernel_rfl) (by exact ⟨(tight_sl low_cPrune_state), (tight_sl low_cHeld), (tight_junk g181), trivial⟩)) (shh (b0 := .cells ((cL cPrune_state) a0 ++ [rfv false a1 1 2])) (by kernel_rfl) (shb_cells (by kernel_rfl) (by kernel_rfl) (tights_app (tights_lows ((low_cL low_cPrune_state) _)) (tights_cons rfl rfl))) (shh (b0 := rfb cHeld a1) (by kernel_rfl) (NoRef.shb (noref_rfb low_cHeld _)) (shh (b0 := mpb (AV.int .i64) (AV.int .i64) x215.1) (by kernel_rfl) (NoRef.shb (noref_mpb (fun _ => rfl) (fun _ => rfl) _)) shh_nil)))) ⟨(x215.1, 0), g181, rfl, rfl, hF⟩
  subst e1 e2
  have hF := loop_in hF
  refine xq ?_
  refine wh 1 ?_
  refine we ?_
  refine ng ?_
  refine xs ?_
  refine ite_elim hF (fun hc2 hF => ?_) (fun hc2 hF => ?_)
  ·refine kT 22 hc2 ?_
   refine xT ?_
   refine xk ?_
   refine ng ?_
   refine xs ?_
   refine xb ?_
   refine xq ?_
   refine bind_elim hF (fun y244 hy244 hF => uI cHeld 2 hy244 len_cHeld ?_)
   refine uE cHeld 0 (t := 41) (v := .agg (cHeld y244)) 2 2 hy244 len_cHeld ?_
   refine wr 4 [.cells ((cL cPrune_state) a0 ++ [rfv false a1 1 2]), rfb cHeld a1, mpb (AV.int .i64) (AV.int .i64) x242.1, .cells (cHeld y244)] ?_
   refine we ?_
   refine ng ?_
   refine xr ?_
   refine wh 6 ?_
   refine w_mput (AV.int .i64) (AV.int .i64) (t := 64) (l := 2) (a := y244.Number) (v := iAdd .i64 y244.Size 1) (kt := 3) (et := 3) x242.1 (by kernel_rfl) (by kernel_rfl) (key_int (by kernel_rfl)) (by kernel_rfl) ?_
   refine we ?_
   refine block_n ?_
   refine ng ?_
   refine xr ?_
   refine wr 2 [.cells ((cL cPrune_state) a0 ++ [rfv false a1 1 2]), rfb cHeld a1, mpb (AV.int .i64) (AV.int .i64) (Mp.put x242.1 y244.Number (iAdd .i64 y244.Size 1)), .cells (cHeld y244)] ?_
   refine we ?_
   refine then_n ?_
   exact x_back (VS.si [0, 1, 2] 17176137719 (tights_at [12, 19] (by kernel_rfl) (by exact ⟨(tight_sl low_cPrune_state), (tight_sl low_cHeld), trivial⟩)) (shh (b0 := .cells ((cL cPrune_state) a0 ++ [rfv false a1 1 2])) (by kernel_rfl) (shb_cells (by kernel_rfl) (by kernel_rfl) (tights_app (tights_lows ((low_cL low_cPrune_state) _)) (tights_cons rfl rfl))) (shh (b0 := rfb cHeld a1) (by kernel_rfl) (NoRef.shb (noref_rfb low_cHeld _)) (shh (b0 := mpb (AV.int .i64) (AV.int .i64) (Mp.put x242.1 y244.Number (iAdd .i64 y244.Size 1))) (by kernel_rfl) (NoRef.shb (noref_mpb (fun _ => rfl) (fun _ => rfl) _)) shh_nil)))) ⟨(Mp.put x242.1 y244.Number (iAdd .i64 y244.Size 1), iAdd .i64 x242.2 1), (some true), rfl, rfl, hF⟩
  refine kF 22 hc2 ?_
  refine xF ?_
  refine xe ?_
  refine then_e ?_
  refine then_e ?_
  refine block_e ?_
  refine block_n ?_
  refine then_n ?_
  exact x_to hJ7 (VS.sm 17175613431) ⟨x242.1, rfl, rfl, hF⟩
 refine kF 15 hc1 ?_
 refine xF ?_
 refine xe ?_
 refine then_e ?_
 refine then_e ?_
 refine block_e ?_
 refine then_n ?_
 exact x_to hJ4 (VS.sm 17175642103) ⟨x215.1, g181, rfl, rfl, hF⟩
def prune_Book_Prune_1 (a0 : Held) (a1 : Mp Int Int) (a2 : Sl Prune_state) (a3 : Sl Held) : Option ((Mp Int Int) × (Sl Held)) :=
  if ((Mp.get a1 a0.Number).getD 0 == 0) = true then (appL 16 a3 (⟨false, true, [a0]⟩ : Sl Held).l).bind fun y250 => some (Mp.put a1 a0.Number (iAdd .i64 a0.Size 1), y250) else some (a1, a3)
theorem prune_Book_Prune_1_ev {a0 : Held} {a1 : Mp Int Int} {a2 : Sl Prune_state} {a3 : Sl Held} {r : (Mp Int Int) × (Sl Held)} (hF : prune_Book_Prune_1 a0 a1 a2 a3 = some r) : EvCall Try.prog T G0 27 [.agg (cHeld a0), .ptr 0 0, .ptr 2 0] [.cells ([.map 1]), mpb (AV.int .i64) (AV.int .i64) a1, .cells ([.ptr 3 0]), .cells ((cL cPrune_state) a2 ++ [rfv false a3 4 2]), rfb cHeld a3] (fun v H' => v = .tup [] ∧ H' = [.cells ([.map 1]), mpb (AV.int .i64) (AV.int .i64) r.1, .cells ([.ptr 3 0]), .cells ((cL cPrune_state) a2 ++ [rfv false r.2 5 2]), .dead, rfb cHeld r.2]) := by
 refine xc Try.func27 ?_
 refine xq ?_
 refine wr 1 [.cells ([.map 1]), mpb (AV.int .i64) (AV.int .i64) a1, .cells ([.ptr 3 0]), .cells ((cL cPrune_state) a2 ++ [rfv false a3 4 2]), rfb cHeld a3, .cells (cHeld a0)] ?_
 refine we ?_
 refine ng ?_
 refine xq ?_
 refine wh 3 ?_
 refine w_mget (AV.int .i64) (AV.int .i64) (t := 64) (l := 1) (a := a0.Number) (ok := false) (kt := 3) (et := 3) (z := 0) a1 (by kernel_rfl) (by kernel_rfl) (key_int (by kernel_rfl)) (by kernel_rfl) (by kernel_rfl) ?_
 refine wh 5 ?_
 refine we ?_
 refine ng ?_
 refine ite_elim hF (fun hc1 hF => ?_) (fun hc1 hF => ?_)
 ·refine kT 8 hc1 ?_
  refine xT ?_
  refine xq ?_
  refine wh 6 ?_
  refine w_mput (AV.int .i64) (AV.int .i64) (t := 64) (l := 1) (a := a0.Number) (v := iAdd .i64 a0.Size 1) (kt := 3) (et := 3) a1 (by kernel_rfl) (by kernel_rfl) (key_int (by kernel_rfl)) (by kernel_rfl) ?_
  refine we ?_
  refine ng ?_
  refine x_rows 0 895 [⟨7, [8, 9], [0, 8, 9], [], [0]⟩, ⟨10, [], [], [], []⟩] call_ends callMono (by kernel_rfl) (by kernel_rfl) ?_
  refine wp 6 ?_
  refine w_frz (v := sl cHeld (⟨false, true, [a0]⟩ : Sl Held)) (by kernel_rfl) ?_
  refine we ?_
  refine rows_next ?_
  refine bind_elim hF (fun y250 hy250 hF => w_rapp cHeld (e := 41) (l := 4) (ex := false) (y := sl cHeld (⟨false, true, [a0]⟩ : Sl Held)) (sz := 2) (x := a3) (ys := (⟨false, true, [a0]⟩ : Sl Held).l) hy250 (by kernel_rfl) (by decide) len_cHeld (by kernel_rfl) (gives_sl (x := (⟨false, true, [a0]⟩ : Sl Held)) (by kernel_rfl) len_cHeld) ?_)
  refine we ?_
  refine ⟨⟨(by kernel_rfl), chks_of (by kernel_rfl) (by kernel_rfl)⟩, ?_⟩
  refine wp 2 ?_
  refine we ?_
  refine rows_next ?_
  refine wr 1 [.cells ([.map 1]), mpb (AV.int .i64) (AV.int .i64) (Mp.put a1 a0.Number (iAdd .i64 a0.Size 1)), .cells ([.ptr 3 0]), .cells ((cL cPrune_state) a2 ++ [rfv false y250 6 2]), .dead, .cells (cHeld a0), rfb cHeld y250] ?_
  refine we ?_
  refine ⟨⟨(by kernel_rfl), trivial⟩, ?_⟩
  refine we ?_
  refine rows_done ?_
  refine de ?_
  have e := Option.some.inj hF
  subst e
  exact fS [0, 1, 2, 3, 4, 6] (.inr rfl) rfl (shh (b0 := .cells ([.map 1])) (by kernel_rfl) (shb_cells (by kernel_rfl) (by kernel_rfl) (tights_cons rfl rfl)) (shh (b0 := mpb (AV.int .i64) (AV.int .i64) (Mp.put a1 a0.Number (iAdd .i64 a0.Size 1))) (by kernel_rfl) (NoRef.shb (noref_mpb (fun _ => rfl) (fun _ => rfl) _)) (shh (b0 := .cells ([.ptr 3 0])) (by kernel_rfl) (shb_cells (by kernel_rfl) (by kernel_rfl) (tights_cons rfl rfl)) (shh (b0 := .cells ((cL cPrune_state) a2 ++ [rfv false y250 6 2])) (by kernel_rfl) (shb_cells (by kernel_rfl) (by kernel_rfl) (tights_app (tights_lows ((low_cL low_cPrune_state) _)) (tights_cons rfl rfl))) (shh (b0 := .dead) (by kernel_rfl) (shb_dead (by kernel_rfl)) (shh (b0 := rfb cHeld y250) (by kernel_rfl) (NoRef.shb (noref_rfb low_cHeld _)) shh_nil)))))) ⟨rfl, rfl⟩
 refine kF 8 hc1 ?_
 refine xF ?_
 refine xk ?_
 have e := Option.some.inj hF
 subst e
 exact fin_vs2 (.inr rfl) (by kernel_rfl) (VS.trans (VS.move cHeld a3 4 [] [3] (by kernel_rfl) (by kernel_rfl)) (VS.sh [0, 1, 2, 3, 4, 6] 0 (by kernel_rfl) (by kernel_rfl) (by kernel_rfl) (by kernel_rfl) (shh (b0 := .cells ([.map 1])) (by kernel_rfl) (shb_cells (by kernel_rfl) (by kernel_rfl) (tights_cons rfl rfl)) (shh (b0 := mpb (AV.int .i64) (AV.int .i64) a1) (by kernel_rfl) (NoRef.shb (noref_mpb (fun _ => rfl) (fun _ => rfl) _)) (shh (b0 := .cells ([.ptr 3 0])) (by kernel_rfl) (shb_cells (by kernel_rfl) (by kernel_rfl) (tights_cons rfl rfl)) (shh (b0 := .cells ((cL cPrune_state) a2 ++ [rfv false a3 6 2])) (by kernel_rfl) (shb_cells (by kernel_rfl) (by kernel_rfl) (tights_app (tights_lows ((low_cL low_cPrune_state) _)) (tights_cons rfl rfl))) (shh (b0 := .dead) (by kernel_rfl) (shb_dead (by kernel_rfl)) (shh (b0 := rfb cHeld a3) (by kernel_rfl) (NoRef.shb (noref_rfb low_cHeld _)) shh_nil)))))))) (And.intro rfl rfl)
def prune_Book_Prune_J10 (y50 : Sl Prune_state) (p201 : Sl Held) (y203 : Sl Held) (p238 : Sl Int) : Option ((Sl Int) × (Sl Prune_state) × (Sl Held)) :=
  (cutL y203 (some (if 64 < (p201.l.length : Int) then 64 else (p201.l.length : Int))) none none).bind fun y247 => (appL 16 (⟨false, true, []⟩ : Sl Held) y247.l).bind fun y248 => some (p238.weak, y50, y248)
def prune_Book_Prune_B277 (y50 : Sl Prune_state) (p201 : Sl Held) (y203 : Sl Held) (y250 : Sl Held) (k277 : ((Sl Int) × Int) → Option ((Sl Int) × (Sl Prune_state) × (Sl Held))) (x277 : (Sl Int) × Int) : Option ((Sl Int) × (Sl Prune_state) × (Sl Held)) :=
  if iLt x277.2 (y250.l.length : Int) = true then (idxL y250.l x277.2).bind fun y280 => (appL 8 x277.1 (⟨false, true, [y280.Number]⟩ : Sl Int).l).bind fun y281 => k277 (y281, iAdd .i64 x277.2 1) else prune_Book_Prune_J10 y50 p201 y203 x277.1
def prune_Book_Prune_J9 (y50 : Sl Prune_state) (p201 : Sl Held) : Option ((Sl Int) × (Sl Prune_state) × (Sl Held)) :=
  (sortHeld p201).bind fun y203 => (cutL y203 none (some (if 64 < (p201.l.length : Int) then 64 else (p201.l.length : Int))) none).bind fun y250 => loopN (prune_Book_Prune_B277 y50 p201 y203 y250) FUEL (⟨true, true, []⟩, 0)
def prune_Book_Prune_J13 (k384 : ((Sl Held) × (Mp Int Int) × Int) → Option ((Sl Int) × (Sl Prune_state) × (Sl Held))) (x384 : (Sl Held) × (Mp Int Int) × Int) (p407 : Sl Held) (p408 : Mp Int Int) : Option ((Sl Int) × (Sl Prune_state) × (Sl Held)) :=
  k384 (p407, p408, iAdd .i64 x384.2.2 1)
def prune_Book_Prune_B426 (y50 : Sl Prune_state) (k384 : ((Sl Held) × (Mp Int Int) × Int) → Option ((Sl Int) × (Sl Prune_state) × (Sl Held))) (x384 : (Sl Held) × (Mp Int Int) × Int) (y409 : Prune_state) (k426 : ((Sl Held) × (Mp Int Int) × Int) → Option ((Sl Int) × (Sl Prune_state) × (Sl Held))) (x426 : (Sl Held) × (Mp Int Int) × Int) : Option ((Sl Int) × (Sl Prune_state) × (Sl Held)) :=
  if iLt x426.2.2 (y409.l.l.length : Int) = true then (idxL y409.l.l x426.2.2).bind fun y429 => (prune_Book_Prune_1 y429 x426.2.1 y50 x426.1).bind fun y430 => k426 (y430.2, y430.1, iAdd .i64 x426.2.2 1) else prune_Book_Prune_J13 k384 x384 x426.1 x426.2.1
def prune_Book_Prune_B384 (y44 : Sl Prune_state) (y50 : Sl Prune_state) (k384 : ((Sl Held) × (Mp Int Int) × Int) → Option ((Sl Int) × (Sl Prune_state) × (Sl Held))) (x384 : (Sl Held) × (Mp Int Int) × Int) : Option ((Sl Int) × (Sl Prune_state) × (Sl Held)) :=
  if iLt x384.2.2 (y44.l.length : Int) = true then (idxL y44.l x384.2.2).bind fun y409 => loopN (prune_Book_Prune_B426 y50 k384 x384 y409) FUEL (x384.1, x384.2.1, 0) else prune_Book_Prune_J9 y50 x384.1
def prune_Book_Prune_J5 (a1 : Sl Prune_state) (a2 : Sl Held) (p42 : Int) : Option ((Sl Int) × (Sl Prune_state) × (Sl Held)) :=
  (cutL a1 none (some p42) (some p42)).bind fun y44 => (cutL a1 (some p42) none none).bind fun y49 => (appX 32 (⟨false, true, []⟩ : Sl Prune_state) y49.l).bind fun y50 => (prune_Book_sizes y50 a2).bind fun y51 => loopN (prune_Book_Prune_B384 y44 y50) FUEL (a2, y51, 0)
def prune_Book_Prune_J17 (k453 : (Int × Int) → Option ((Sl Int) × (Sl Prune_state) × (Sl Held))) (x453 : Int × Int) (p455 : Int) : Option ((Sl Int) × (Sl Prune_state) × (Sl Held)) :=
  k453 (p455, iAdd .i64 x453.2 1)
def prune_Book_Prune_B453 (a0 : Int) (a1 : Sl Prune_state) (a2 : Sl Held) (k453 : (Int × Int) → Option ((Sl Int) × (Sl Prune_state) × (Sl Held))) (x453 : Int × Int) : Option ((Sl Int) × (Sl Prune_state) × (Sl Held)) :=
  if iLt x453.2 (a1.l.length : Int) = true then (idxL a1.l x453.2).bind fun y457 => if iLe y457.number a0 = true then prune_Book_Prune_J17 k453 x453 x453.2 else prune_Book_Prune_J17 k453 x453 x453.1 else prune_Book_Prune_J5 a1 a2 x453.1
def prune_Book_Prune (a0 : Int) (a1 : Sl Prune_state) (a2 : Sl Held) : Option ((Sl Int) × (Sl Prune_state) × (Sl Held)) :=
  loopN (prune_Book_Prune_B453 a0 a1 a2) FUEL (0, 0)
theorem prune_Book_Prune_ev {a0 : Int} {a1 : Sl Prune_state} {a2 : Sl Held} {r : (Sl Int) × (Sl Prune_state) × (Sl Held)} (hF : prune_Book_Prune a0 a1 a2 = some r) : EvCall Try.prog T G0 12 [.ptr 0 0, .int .i64 a0] [.cells ((cL cPrune_state) a1 ++ [rfv false a2 1 2]), rfb cHeld a2] (fun v H' => v = sl (cI .i64) r.1 ∧ H' = [.cells ((cL cPrune_state) r.2.1 ++ [rfv false r.2.2 2 2]), .dead, rfb cHeld r.2.2]) := by
 refine xc Try.func12 ?_
 refine xq ?_
 refine wr 2 [.cells ((cL cPrune_state) a1 ++ [rfv false a2 1 2]), rfb cHeld a2, .cells ([.ptr 0 0])] ?_
 refine we ?_
 refine ng ?_
 refine xs ?_
 refine xq ?_
 refine wh 2 ?_
 refine we ?_
 refine ng ?_
 refine xF ?_
 refine xk ?_
 refine ng ?_
 refine xq ?_
 refine wh 1 ?_
 refine we ?_
 refine ng ?_
 refine xj (fun fr H => ∃ (p42 : Int) (g43 : Option Bool), fr = [.any, .any, .ptr 2 0, .any, .any, .int .i64 p42, .any, .any, .any, .any, .any, .any, .any, .any, .any, .any, .any, .any, .any, .any, .bool false, .any, .any, .any, .any, .any, .any, .bool false, .any, .any, .any, .any, .any, .any, junkB g43, .any, .any, .any, .any, .any, .any, .any, .any, .any, .any, .any, .any, .any, .any, .any, .any, .any, .any, .any, .any, .any, .any, .any, .any, .any, .any, .any, .any, .any, .any, .any, .any, .any, .any, .any, .any, .any, .any, .any, .any, .any, .any, .any, .any, .any, .any, .any, .any, .any, .any, .any, .any, .any, .any, .any, .any, .any, .any, .any, .any, .any, .any, .any, .any, .any, .any, .any, .any, .any, .any, .any, .any, .any, .any, .any, .any, .any, .any, .any, .any, .any] ∧ H = [.cells ((cL cPrune_state) a1 ++ [rfv false a2 1 2]), rfb cHeld a2, .cells ([.ptr 0 0])] ∧ prune_Book_Prune_J5 a1 a2 p42 = some r) (fun fr H ⟨p42, g43, e1, e2, hF⟩ => ?_) (fun hJ5 => ?_)
 ·subst e1 e2
  refine xq ?_
  refine wh 6 ?_
  refine bind_elim hF (fun y44 hy44 hF => w_slice cPrune_state (sz := 2) hy44 (by kernel_rfl) len_cPrune_state (fun _ => rfl) ?_)
  refine wh 8 ?_
  refine we ?_
  refine ng ?_
  refine xs ?_
  refine x_rows 0 2047 [⟨11, [], [], [], []⟩] call_ends callMono (by kernel_rfl) (by kernel_rfl) ?_
  refine wp 1 ?_
  refine w_frz (v := sl cPrune_state (⟨false, true, []⟩ : Sl Prune_state)) (by kernel_rfl) ?_
  refine wp 7 ?_
  refine bind_elim hF (fun y49 hy49 hF => w_slice cPrune_state (sz := 2) hy49 (by kernel_rfl) len_cPrune_state (fun e => by cases e) ?_)
  refine bind_elim hF (fun y50 hy50 hF => w_appL cPrune_state (e := 63) (sz := 2) (x := (⟨false, true, []⟩ : Sl Prune_state)) (ys := y49.l) hy50 (by kernel_rfl) (by kernel_rfl) (by decide) len_cPrune_state (gives_sl (x := y49) (by kernel_rfl) len_cPrune_state) ?_)
  refine wp 11 ?_
  refine we ?_
  refine rows_next ?_
  refine wr 1 [.cells ((cL cPrune_state) y50 ++ [rfv false a2 1 2]), rfb cHeld a2, .cells ([.ptr 0 0])] ?_
  refine we ?_
  refine ⟨⟨(by kernel_rfl), trivial⟩, ?_⟩
  refine we ?_
  refine rows_done ?_
  refine de ?_
  refine ng ?_
  refine xq ?_
  refine wh 1 ?_
  refine bind_elim hF (fun y51 hy51 hF => uO [0, 1] [0, 1, 3] (v := .map 3) [.cells ((cL cPrune_state) y50 ++ [rfv false a2 1 2]), rfb cHeld a2, mpb (AV.int .i64) (AV.int .i64) y51] [.cells ((cL cPrune_state) y50 ++ [rfv false a2 1 2]), rfb cHeld a2, .cells ([.ptr 0 0]), mpb (AV.int .i64) (AV.int .i64) y51] (prune_Book_sizes_ev hy51) (by kernel_rfl) (pl (b' := .cells ((cL cPrune_state) y50 ++ [rfv false a2 1 2])) (by kernel_rfl) (sb_cells (by kernel_rfl) (by kernel_rfl) (tights_app (tights_lows ((low_cL low_cPrune_state) _)) (tights_cons rfl rfl))) (pl (b' := rfb cHeld a2) (by kernel_rfl) (sb_low (noref_rfb low_cHeld _)) pl_nil)) rfl (sbs (sb_cells (by kernel_rfl) (by kernel_rfl) (tights_app (tights_lows ((low_cL low_cPrune_state) _)) (tights_cons rfl rfl))) (sbs (sb_low (noref_rfb low_cHeld _)) (sbs (sb_low (noref_mpb (fun _ => rfl) (fun _ => rfl) _)) sbs_nil))) ?_)
  refine wr 4 [.cells ((cL cPrune_state) y50 ++ [rfv false a2 1 2]), rfb cHeld a2, .cells ([.ptr 0 0]), mpb (AV.int .i64) (AV.int .i64) y51, .cells ([.map 3])] ?_
  refine we ?_
  refine ng ?_
  refine xq ?_
  refine wh 2 ?_
  refine we ?_
  refine ng ?_
  refine xj (fun fr H => ∃ (p201 : Sl Held) (g202 : Option Bool), fr = [.any, .any, .ptr 3 0, .any, .any, .any, .any, .any, .any, .any, .any, .any, .any, .any, .any, .any, .any, .any, .any, .any, .bool false, .any, .any, .any, .any, .any, .any, .bool false, .any, .any, .any, .any, .any, .any, junkB g43, .any, .any, .any, .any, .any, .any, .any, .any, .any, .any, .any, .any, .any, .any, .any, .any, .any, .any, .any, .any, .any, .any, .any, .any, .any, .any, .bool false, .any, .any, .any, .any, .any, .any, junkB g202, .any, .any, .any, .any, .any, .any, .any, .any, .any, .any, .any, .any, .any, .any, .any, .any, .any, .any, .any, .any, .any, .any, .any, .any, .any, .any, .any, .any, .any, .any, .any, .any, .any, .any, .any, .any, .any, .any, .any, .any, .any, .any, .any, .any, .any, .any, .any] ∧ H = [.cells ((cL cPrune_state) y50 ++ [rfv false p201 2 2]), .dead, rfb cHeld p201, .cells ([.ptr 0 0])] ∧ prune_Book_Prune_J9 y50 p201 = some r) (fun fr H ⟨p201, g202, e1, e2, hF⟩ => ?_) (fun hJ9 => ?_)
  ·subst e1 e2
   refine xq ?_
   refine wh 4 ?_
   refine bind_elim hF (fun y203 hy203 hF => uO [2] [2] (v := .tup []) [rfb cHeld y203] [.cells ((cL cPrune_state) y50 ++ [rfv false p201 2 2]), .dead, rfb cHeld y203, .cells ([.ptr 0 0])] (sortHeld_ev (ex := false) hy203) (by kernel_rfl) (pl (b' := rfb cHeld p201) (by kernel_rfl) (sb_low (noref_rfb low_cHeld _)) pl_nil) rfl (sbs (sb_low (noref_rfb low_cHeld _)) sbs_nil) ?_)
   refine we ?_
   refine ng ?_
   refine xq ?_
   refine wh 7 ?_
   refine we ?_
   refine ng ?_
   refine xq ?_
   refine wh 1 ?_
   refine we ?_
   refine ng ?_
   refine xj (fun fr H => ∃ (p238 : Sl Int) (g237 : Nat) (g239 : Bool), fr = [.any, .any, .ptr 3 0, .any, .any, .any, .any, .any, .any, .any, .any, .any, .any, .any, .any, .int .i64 (if 64 < (p201.l.length : Int) then 64 else (p201.l.length : Int)), ownv (cI .i64) 4 g237 1 p238, .any, .any, .any, .bool false, .any, .any, .any, .any, .any, .any, .bool false, .any, .any, .any, .any, .any, .any, junkB g43, .any, .any, .any, .any, .any, .any, .any, .any, .any, .any, .any, .any, .any, .any, .any, .any, .any, .any, .any, .any, .any, .any, .any, .any, .any, .any, .bool false, .any, .any, .any, .any, .any, .any, junkB g202, .any, .any, .any, .any, .any, .any, .any, .any, .any, .any, .any, .any, .any, .any, .any, .any, .any, .any, .any, .any, .any, .any, .any, .any, .any, .any, .bool false, .any, .any, .any, .any, .any, .any, .any, .any, .any, .any, .any, .any, .any, .any, .any, .any, .any, .any, .any, .any] ∧ H = [.cells ((cL cPrune_state) y50 ++ [rfv false p201 2 2]), .dead, rfb cHeld y203, .cells ([.ptr 0 0]), .room g237 g239] ∧ prune_Book_Prune_J10 y50 p201 y203 p238 = some r) (fun fr H ⟨p238, g237, g239, e1, e2, hF⟩ => ?_) (fun hJ10 => ?_)
   ·subst e1 e2
    refine xs ?_
    refine x_rows 0 1789 [⟨1, [], [0, 2, 3, 4, 5, 6, 7], [], [0, 2, 5]⟩, ⟨8, [9, 10], [0, 9, 10], [], [0]⟩, ⟨11, [], [], [], []⟩] call_ends callMono (by kernel_rfl) (by kernel_rfl) ?_
    refine wp 6 ?_
    refine bind_elim hF (fun y247 hy247 hF => w_rslice (e := 41) (l := 2) (ex := false) (nl := p201.nl && p201.l.isEmpty) (b := y203) (sz := 2) (len := p201.l.length) hy247 (sortHeld_len hy203) (by kernel_rfl) (by kernel_rfl) (fun e246 => ?_))
    refine we ?_
    refine rows_next ?_
    refine wr 1 [.cells ((cL cPrune_state) y50 ++ [rfv false p201 2 2]), .dead, rfb cHeld y203, .cells ([.ptr 0 0]), .room g237 g239, rfb cHeld (⟨false, true, []⟩ : Sl Held)] ?_
    refine we ?_
    refine ⟨⟨(by kernel_rfl), chks_of (by kernel_rfl) (by kernel_rfl)⟩, ?_⟩
    refine we ?_
    refine rows_next ?_
    refine bind_elim hF (fun y248 hy248 hF => w_rapp cHeld (e := 41) (l := 5) (ex := true) (y := .ref e246 (p201.nl && p201.l.isEmpty) 2 ((cutK (some (if 64 < (p201.l.length : Int) then 64 else (p201.l.length : Int)))) * 2) y247.l.length 2) (sz := 2) (x := (⟨false, true, []⟩ : Sl Held)) (ys := y247.l) hy248 (by kernel_rfl) (by decide) len_cHeld (by kernel_rfl) (gives_rfs hy247 (nl_eq (sortHeld_len hy203) (sortHeld_nl hy203)) (by kernel_rfl) len_cHeld (by kernel_rfl)) ?_)
    refine we ?_
    refine ⟨⟨(by kernel_rfl), chks_of (by kernel_rfl) (by kernel_rfl)⟩, ?_⟩
    refine wp 2 ?_
    refine we ?_
    refine rows_next ?_
    refine wr 1 [.cells ((cL cPrune_state) y50 ++ [rfv false y248 6 2]), .dead, rfb cHeld y203, .cells ([.ptr 0 0]), .room g237 g239, .dead, rfb cHeld y248] ?_
    refine we ?_
    refine ⟨⟨(by kernel_rfl), trivial⟩, ?_⟩
    refine we ?_
    refine rows_done ?_
    refine de ?_
    refine ng ?_
    refine xq ?_
    refine wh 2 ?_
    refine we ?_
    refine ng ?_
    refine xt ?_
    have e := Option.some.inj hF
    subst e
    exact fS [0, 1, 6] (.inl rfl) (tight_sl low_cI) (shh (b0 := .cells ((cL cPrune_state) y50 ++ [rfv false y248 6 2])) (by kernel_rfl) (shb_cells (by kernel_rfl) (by kernel_rfl) (tights_app (tights_lows ((low_cL low_cPrune_state) _)) (tights_cons rfl rfl))) (shh (b0 := .dead) (by kernel_rfl) (shb_dead (by kernel_rfl)) (shh (b0 := rfb cHeld y248) (by kernel_rfl) (NoRef.shb (noref_rfb low_cHeld _)) shh_nil))) ⟨rfl, rfl⟩
   refine xq ?_
   refine wh 5 ?_
   refine bind_elim hF (fun y250 hy250 hF => w_rslice (e := 41) (l := 2) (ex := false) (nl := p201.nl && p201.l.isEmpty) (b := y203) (sz := 2) (len := p201.l.length) hy250 (sortHeld_len hy203) (by kernel_rfl) (by kernel_rfl) (fun e249 => ?_))
   refine wh 8 ?_
   refine we ?_
   refine ng ?_
   refine xb ?_
   refine x_loop (fun d fr H => ∃ (x277 : (Sl Int) × Int) (g263 : Nat) (g266 : Option Bool) (g267 : Bool), fr = [.any, .any, .ptr 3 0, .any, .any, .any, .any, .any, .any, .any, .any, .any, .any, .any, .any, .int .i64 (if 64 < (p201.l.length : Int) then 64 else (p201.l.length : Int)), ownv (cI .i64) 4 g263 1 x277.1, .any, .any, .any, .bool false, .any, .any, .any, .any, .any, .any, .bool false, .any, .any, .any, .any, .any, .any, junkB g43, .any, .any, .any, .any, .any, .any, .any, .any, .any, .any, .any, .any, .any, .any, .any, .any, .any, .any, .any, .any, .any, .any, .any, .any, .any, .any, .bool false, .any, .any, .any, .any, .any, .any, junkB g202, .any, .any, .any, .any, .any, .any, .any, .any, .any, .any, .any, .any, .any, .any, .any, .any, .any, .any, .any, .any, .any, .any, .any, .ref e249 (p201.nl && p201.l.isEmpty) 2 ((cutK none) * 2) y250.l.length 2, .int .i64 (y250.l.length : Int), .int .i64 x277.2, junkB g266, .any, .any, .any, .any, .any, .any, .any, .any, .any, .any, .any, .any, .any, .any, .any, .any, .any, .any, .any, .any] ∧ H = [.cells ((cL cPrune_state) y50 ++ [rfv false p201 2 2]), .dead, rfb cHeld y203, .cells ([.ptr 0 0]), .room g263 g267] ∧ loopN (prune_Book_Prune_B277 y50 p201 y203 y250) d x277 = some r) (by kernel_rfl) (fun fr H ⟨x277, g263, g266, g267, e1, e2, hF⟩ => loop_no hF) (fun d277 fr H ⟨x277, g263, g266, g267, e1, e2, hF⟩ => ?_) (VS.trans (VS.thaw (cI .i64) 16 1 ⟨true, true, []⟩ (by kernel_rfl) rfl (fun _ => rfl)) (VS.sm 83076715074235844612092038210289659)) ⟨(⟨true, true, []⟩, 0), 1, none, false, rfl, rfl, hF⟩
   subst e1 e2
   have hF := loop_in hF
   refine xq ?_
   refine wh 1 ?_
   refine we ?_
   refine ng ?_
   refine xs ?_
   refine ite_elim hF (fun hc1 hF => ?_) (fun hc1 hF => ?_)
   ·refine kT 95 hc1 ?_
    refine xT ?_
    refine xk ?_
    refine ng ?_
    refine xs ?_
    refine xb ?_
    refine xq ?_
    refine bind_elim hF (fun y280 hy280 hF => w_riaddr (t := 27) (e := 41) (l := 2) (ex := e249) (nl := (p201.nl && p201.l.isEmpty)) (kd := .i64) (k := (cutK none)) (sz := 2) (len := y250.l.length) (b := y250.l) hy280 (Nat.le_refl _) (by kernel_rfl) (by kernel_rfl) (by kernel_rfl) ?_)
    refine w_rload cHeld (l := 2) (t := 41) (sz := 2) (fo := 0) (j := ((cutK none) + x277.2.toNat)) y203 (v := .agg (cHeld y280)) (z := 2) (cut_at hy250 hy280) (by kernel_rfl) (by kernel_rfl) len_cHeld (by kernel_rfl) (by kernel_rfl) (by decide) (by decide) ?_
    refine wr 4 [.cells ((cL cPrune_state) y50 ++ [rfv false p201 2 2]), .dead, rfb cHeld y203, .cells ([.ptr 0 0]), .room g263 g267, .cells (cHeld y280)] ?_
    refine we ?_
    refine ng ?_
    refine xr ?_
    refine wh 3 ?_
    refine w_frz (v := sl (cI .i64) (⟨false, true, [y280.Number]⟩ : Sl Int)) (by kernel_rfl) ?_
    refine bind_elim hF (fun y281 hy281 hF => w_app (cI .i64) (e := 3) (sz := 1) (l0 := 4) (real := g267) (ver := g263) (x := x277.1) (ys := (⟨false, true, [y280.Number]⟩ : Sl Int).l) hy281 (by kernel_rfl) (by decide) (gives_sl (x := (⟨false, true, [y280.Number]⟩ : Sl Int)) (by kernel_rfl) (fun _ => rfl)) (room_at (by kernel_rfl)) ?_)
    refine wr 6 [.cells ((cL cPrune_state) y50 ++ [rfv false p201 2 2]), .dead, rfb cHeld y203, .cells ([.ptr 0 0]), .room (g263 + 1) (g267 || !((⟨false, true, [y280.Number]⟩ : Sl Int).l.length == 0)), .cells (cHeld y280)] ?_
    refine we ?_
    refine block_n ?_
    refine ng ?_
    refine xr ?_
    refine wh 2 ?_
    refine we ?_
    refine then_n ?_
    exact x_back (VS.shX [0, 1, 2, 3, 4] 83076715074235844612092038210289659 [34, 68] (by kernel_rfl) (by kernel_rfl) (by kernel_rfl) (by exact ⟨low_junk g43, low_junk g202, trivial⟩) (tights_at [16, 34, 68] (by kernel_rfl) (by exact ⟨(tight_own low_cI), (tight_junk g43), (tight_junk g202), trivial⟩)) (shh (b0 := .cells ((cL cPrune_state) y50 ++ [rfv false p201 2 2])) (by kernel_rfl) (shb_cells (by kernel_rfl) (by kernel_rfl) (tights_app (tights_lows ((low_cL low_cPrune_state) _)) (tights_cons rfl rfl))) (shh (b0 := .dead) (by kernel_rfl) (shb_dead (by kernel_rfl)) (shh (b0 := rfb cHeld y203) (by kernel_rfl) (NoRef.shb (noref_rfb low_cHeld _)) (shh (b0 := .cells ([.ptr 0 0])) (by kernel_rfl) (shb_cells (by kernel_rfl) (by kernel_rfl) (tights_cons rfl rfl)) (shh (b0 := .room (g263 + 1) (g267 || !((⟨false, true, [y280.Number]⟩ : Sl Int).l.length == 0))) (by kernel_rfl) shb_room shh_nil)))))) ⟨(y281, iAdd .i64 x277.2 1), (g263 + 1), (some true), (g267 || !((⟨false, true, [y280.Number]⟩ : Sl Int).l.length == 0)), rfl, rfl, hF⟩
   refine kF 95 hc1 ?_
   refine xF ?_
   refine xe ?_
   refine then_e ?_
   refine then_e ?_
   refine block_e ?_
   refine then_n ?_
   exact x_to hJ10 (VS.sm 83076710122475687470570938613792763) ⟨x277.1, g263, g267, rfl, rfl, hF⟩
  refine xq ?_
  refine wh 3 ?_
  refine we ?_
  refine ng ?_
  refine xb ?_
  refine x_loop (fun d fr H => ∃ (x384 : (Sl Held) × (Mp Int Int) × Int) (g331 : Option Bool) (g332 : Option Bool), fr = [.any, .any, .ptr 3 0, .any, .any, .any, .any, .any, .any, .any, .fn 27 [] [.ptr 4 0, .ptr 3 0], .any, .any, .any, .any, .any, .any, .any, .any, .any, .bool false, .any, .any, .any, .any, .any, .any, .bool false, .any, .any, .any, .any, .any, .any, junkB g43, .any, .any, .any, .any, .any, .any, .any, .any, .any, .any, .any, .any, .any, .any, .any, .any, .any, .any, .any, .any, .any, .any, .any, sl cPrune_state y44, .int .i64 (y44.l.length : Int), .int .i64 x384.2.2, junkB g331, .any, .any, .any, .any, .any, .any, junkB g332, .any, .any, .any, .any, .any, .any, .any, .any, .any, .any, .any, .any, .any, .any, .any, .any, .any, .any, .any, .any, .any, .any, .any, .any, .any, .any, .any, .any, .any, .any, .any, .any, .any, .any, .any, .any, .any, .any, .any, .any, .any, .any, .any, .any, .any, .any, .any] ∧ H = [.cells ((cL cPrune_state) y50 ++ [rfv false x384.1 2 2]), .dead, rfb cHeld x384.1, .cells ([.ptr 0 0]), .cells ([.map 5]), mpb (AV.int .i64) (AV.int .i64) x384.2.1] ∧ loopN (prune_Book_Prune_B384 y44 y50) d x384 = some r) (by kernel_rfl) (fun fr H ⟨x384, g331, g332, e1, e2, hF⟩ => loop_no hF) (fun d384 fr H ⟨x384, g331, g332, e1, e2, hF⟩ => ?_) (VS.trans (VS.move cHeld a2 1 [] [0] (by kernel_rfl) (by kernel_rfl)) (VS.shX [0, 1, 5, 2, 4, 3] 83076749736557240038875290890402811 [34] (by kernel_rfl) (by kernel_rfl) (by kernel_rfl) (by exact ⟨low_junk g43, trivial⟩) (tights_at [34, 58] (by kernel_rfl) (by exact ⟨(tight_junk g43), (tight_sl low_cPrune_state), trivial⟩)) (shh (b0 := .cells ((cL cPrune_state) y50 ++ [rfv false a2 5 2])) (by kernel_rfl) (shb_cells (by kernel_rfl) (by kernel_rfl) (tights_app (tights_lows ((low_cL low_cPrune_state) _)) (tights_cons rfl rfl))) (shh (b0 := .dead) (by kernel_rfl) (shb_dead (by kernel_rfl)) (shh (b0 := rfb cHeld a2) (by kernel_rfl) (NoRef.shb (noref_rfb low_cHeld _)) (shh (b0 := .cells ([.ptr 0 0])) (by kernel_rfl) (shb_cells (by kernel_rfl) (by kernel_rfl) (tights_cons rfl rfl)) (shh (b0 := .cells ([.map 3])) (by kernel_rfl) (shb_cells (by kernel_rfl) (by kernel_rfl) (tights_cons rfl rfl)) (shh (b0 := mpb (AV.int .i64) (AV.int .i64) y51) (by kernel_rfl) (NoRef.shb (noref_mpb (fun _ => rfl) (fun _ => rfl) _)) shh_nil)))))))) ⟨(a2, y51, 0), none, none, rfl, rfl, hF⟩
  subst e1 e2
  have hF := loop_in hF
  refine xq ?_
  refine wh 1 ?_
  refine we ?_
  refine ng ?_
  refine xs ?_
  refine ite_elim hF (fun hc2 hF => ?_) (fun hc2 hF => ?_)
  ·refine kT 61 hc2 ?_
   refine xT ?_
   refine xk ?_
   refine ng ?_
   refine xj (fun fr H => ∃ (p407 : Sl Held) (p408 : Mp Int Int), fr = [.any, .any, .ptr 3 0, .any, .any, .any, .any, .any, .any, .any, .fn 27 [] [.ptr 4 0, .ptr 3 0], .any, .any, .any, .any, .any, .any, .any, .any, .any, .bool false, .any, .any, .any, .any, .any, .any, .bool false, .any, .any, .any, .any, .any, .any, junkB g43, .any, .any, .any, .any, .any, .any, .any, .any, .any, .any, .any, .any, .any, .any, .any, .any, .any, .any, .any, .any, .any, .any, .any, sl cPrune_state y44, .int .i64 (y44.l.length : Int), .int .i64 x384.2.2, .bool true, .any, .any, .any, .any, .any, .any, .bool false, .any, .any, .any, .any, .any, .any, .any, .any, .any, .any, .any, .any, .any, .any, .any, .any, .any, .any, .any, .any, .any, .any, .any, .any, .any, .any, .any, .any, .any, .any, .any, .any, .any, .any, .any, .any, .any, .any, .any, .any, .any, .any, .any, .any, .any, .any, .any] ∧ H = [.cells ((cL cPrune_state) y50 ++ [rfv false p407 2 2]), .dead, rfb cHeld p407, .cells ([.ptr 0 0]), .cells ([.map 5]), mpb (AV.int .i64) (AV.int .i64) p408] ∧ prune_Book_Prune_J13 (loopN (prune_Book_Prune_B384 y44 y50) d384) x384 p407 p408 = some r) (fun fr H ⟨p407, p408, e1, e2, hF⟩ => ?_) (fun hJ13 => ?_)
   ·subst e1 e2
    refine xr ?_
    refine wh 2 ?_
    refine we ?_
    refine then_n ?_
    exact x_back (VS.sm 83076749736557240038875290890402811) ⟨(p407, p408, iAdd .i64 x384.2.2 1), (some true), (some false), rfl, rfl, hF⟩
   refine xb ?_
   refine xq ?_
   refine bind_elim hF (fun y409 hy409 hF => uI cPrune_state 2 hy409 len_cPrune_state ?_)
   refine uE cPrune_state 0 (t := 63) (v := .agg (cPrune_state y409)) 2 2 hy409 len_cPrune_state ?_
   refine wr 4 [.cells ((cL cPrune_state) y50 ++ [rfv false x384.1 2 2]), .dead, rfb cHeld x384.1, .cells ([.ptr 0 0]), .cells ([.map 5]), mpb (AV.int .i64) (AV.int .i64) x384.2.1, .cells (cPrune_state y409)] ?_
   refine we ?_
   refine ng ?_
   refine xq ?_
   refine wh 4 ?_
   refine we ?_
   refine ng ?_
   refine xb ?_
   refine x_loop (fun d fr H => ∃ (x426 : (Sl Held) × (Mp Int Int) × Int) (g417 : Option Bool), fr = [.any, .any, .ptr 3 0, .any, .any, .any, .any, .any, .any, .any, .fn 27 [] [.ptr 4 0, .ptr 3 0], .any, .any, .any, .any, .any, .any, .any, .any, .any, .bool false, .any, .any, .any, .any, .any, .any, .bool false, .any, .any, .any, .any, .any, .any, junkB g43, .any, .any, .any, .any, .any, .any, .any, .any, .any, .any, .any, .any, .any, .any, .any, .any, .any, .any, .any, .any, .any, .any, .any, sl cPrune_state y44, .int .i64 (y44.l.length : Int), .int .i64 x384.2.2, .bool true, .any, .any, .any, sl cHeld y409.l, .int .i64 (y409.l.l.length : Int), .int .i64 x426.2.2, junkB g417, .any, .any, .any, .any, .any, .any, .any, .any, .any, .any, .any, .any, .any, .any, .any, .any, .any, .any, .any, .any, .any, .any, .any, .any, .any, .any, .any, .any, .any, .any, .any, .any, .any, .any, .any, .any, .any, .any, .any, .any, .any, .any, .any, .any, .any, .any, .any] ∧ H = [.cells ((cL cPrune_state) y50 ++ [rfv false x426.1 2 2]), .dead, rfb cHeld x426.1, .cells ([.ptr 0 0]), .cells ([.map 5]), mpb (AV.int .i64) (AV.int .i64) x426.2.1] ∧ loopN (prune_Book_Prune_B426 y50 (loopN (prune_Book_Prune_B384 y44 y50) d384) x384 y409) d x426 = some r) (by kernel_rfl) (fun fr H ⟨x426, g417, e1, e2, hF⟩ => loop_no hF) (fun d426 fr H ⟨x426, g417, e1, e2, hF⟩ => ?_) (VS.shX [0, 1, 2, 3, 4, 5] 83076749736556684330710070390160379 [34, 68] (by kernel_rfl) (by kernel_rfl) (by kernel_rfl) (by exact ⟨low_junk g43, low_junk g332, trivial⟩) (tights_at [34, 58, 65, 68] (by kernel_rfl) (by exact ⟨(tight_junk g43), (tight_sl low_cPrune_state), (tight_sl low_cHeld), (tight_junk g332), trivial⟩)) (shh (b0 := .cells ((cL cPrune_state) y50 ++ [rfv false x384.1 2 2])) (by kernel_rfl) (shb_cells (by kernel_rfl) (by kernel_rfl) (tights_app (tights_lows ((low_cL low_cPrune_state) _)) (tights_cons rfl rfl))) (shh (b0 := .dead) (by kernel_rfl) (shb_dead (by kernel_rfl)) (shh (b0 := rfb cHeld x384.1) (by kernel_rfl) (NoRef.shb (noref_rfb low_cHeld _)) (shh (b0 := .cells ([.ptr 0 0])) (by kernel_rfl) (shb_cells (by kernel_rfl) (by kernel_rfl) (tights_cons rfl rfl)) (shh (b0 := .cells ([.map 5])) (by kernel_rfl) (shb_cells (by kernel_rfl) (by kernel_rfl) (tights_cons rfl rfl)) (shh (b0 := mpb (AV.int .i64) (AV.int .i64) x384.2.1) (by kernel_rfl) (NoRef.shb (noref_mpb (fun _ => rfl) (fun _ => rfl) _)) shh_nil))))))) ⟨(x384.1, x384.2.1, 0), g332, rfl, rfl, hF⟩
   subst e1 e2
   have hF := loop_in hF
   refine xq ?_
   refine wh 1 ?_
   refine we ?_
   refine ng ?_
   refine xs ?_
   refine ite_elim hF (fun hc3 hF => ?_) (fun hc3 hF => ?_)
   ·refine kT 68 hc3 ?_
    refine xT ?_
    refine xk ?_
    refine ng ?_
    refine xs ?_
    refine xb ?_
    refine xq ?_
    refine bind_elim hF (fun y429 hy429 hF => uI cHeld 2 hy429 len_cHeld ?_)
    refine uE cHeld 0 (t := 41) (v := .agg (cHeld y429)) 2 2 hy429 len_cHeld ?_
    refine wr 4 [.cells ((cL cPrune_state) y50 ++ [rfv false x426.1 2 2]), .dead, rfb cHeld x426.1, .cells ([.ptr 0 0]), .cells ([.map 5]), mpb (AV.int .i64) (AV.int .i64) x426.2.1, .cells (cHeld y429)] ?_
    refine we ?_
    refine ng ?_
    refine xr ?_
    refine wh 2 ?_
    refine bind_elim hF (fun y430 hy430 hF => uO [4, 5, 3, 0, 2] [4, 5, 3, 0, 2, 7] (v := .tup []) [.cells ([.map 5]), mpb (AV.int .i64) (AV.int .i64) y430.1, .cells ([.ptr 0 0]), .cells ((cL cPrune_state) y50 ++ [rfv false y430.2 7 2]), .dead, rfb cHeld y430.2] [.cells ((cL cPrune_state) y50 ++ [rfv false y430.2 7 2]), .dead, .dead, .cells ([.ptr 0 0]), .cells ([.map 5]), mpb (AV.int .i64) (AV.int .i64) y430.1, .cells (cHeld y429), rfb cHeld y430.2] (prune_Book_Prune_1_ev hy430) (tights_cons (tight_agg (tights_lows (low_cHeld _))) (tights_cons rfl (tights_cons rfl rfl))) (pl (b' := .cells ([.map 5])) (by kernel_rfl) (sb_cells (by kernel_rfl) (by kernel_rfl) (tights_cons rfl rfl)) (pl (b' := mpb (AV.int .i64) (AV.int .i64) x426.2.1) (by kernel_rfl) (sb_low (noref_mpb (fun _ => rfl) (fun _ => rfl) _)) (pl (b' := .cells ([.ptr 0 0])) (by kernel_rfl) (sb_cells (by kernel_rfl) (by kernel_rfl) (tights_cons rfl rfl)) (pl (b' := .cells ((cL cPrune_state) y50 ++ [rfv false x426.1 2 2])) (by kernel_rfl) (sb_cells (by kernel_rfl) (by kernel_rfl) (tights_app (tights_lows ((low_cL low_cPrune_state) _)) (tights_cons rfl rfl))) (pl (b' := rfb cHeld x426.1) (by kernel_rfl) (sb_low (noref_rfb low_cHeld _)) pl_nil))))) rfl (sbs (sb_cells (by kernel_rfl) (by kernel_rfl) (tights_cons rfl rfl)) (sbs (sb_low (noref_mpb (fun _ => rfl) (fun _ => rfl) _)) (sbs (sb_cells (by kernel_rfl) (by kernel_rfl) (tights_cons rfl rfl)) (sbs (sb_cells (by kernel_rfl) (by kernel_rfl) (tights_app (tights_lows ((low_cL low_cPrune_state) _)) (tights_cons rfl rfl))) (sbs sb_dead (sbs (sb_low (noref_rfb low_cHeld _)) sbs_nil)))))) ?_)
    refine we ?_
    refine block_n ?_
    refine ng ?_
    refine xr ?_
    refine wh 2 ?_
    refine we ?_
    refine then_n ?_
    exact x_back (VS.shX [0, 1, 7, 3, 4, 5] 83076749736556979478615249742986235 [34] (by kernel_rfl) (by kernel_rfl) (by kernel_rfl) (by exact ⟨low_junk g43, trivial⟩) (tights_at [34, 58, 65] (by kernel_rfl) (by exact ⟨(tight_junk g43), (tight_sl low_cPrune_state), (tight_sl low_cHeld), trivial⟩)) (shh (b0 := .cells ((cL cPrune_state) y50 ++ [rfv false y430.2 7 2])) (by kernel_rfl) (shb_cells (by kernel_rfl) (by kernel_rfl) (tights_app (tights_lows ((low_cL low_cPrune_state) _)) (tights_cons rfl rfl))) (shh (b0 := .dead) (by kernel_rfl) (shb_dead (by kernel_rfl)) (shh (b0 := rfb cHeld y430.2) (by kernel_rfl) (NoRef.shb (noref_rfb low_cHeld _)) (shh (b0 := .cells ([.ptr 0 0])) (by kernel_rfl) (shb_cells (by kernel_rfl) (by kernel_rfl) (tights_cons rfl rfl)) (shh (b0 := .cells ([.map 5])) (by kernel_rfl) (shb_cells (by kernel_rfl) (by kernel_rfl) (tights_cons rfl rfl)) (shh (b0 := mpb (AV.int .i64) (AV.int .i64) y430.1) (by kernel_rfl) (NoRef.shb (noref_mpb (fun _ => rfl) (fun _ => rfl) _)) shh_nil))))))) ⟨(y430.2, y430.1, iAdd .i64 x426.2.2 1), (some true), rfl, rfl, hF⟩
   refine kF 68 hc3 ?_
   refine xF ?_
   refine xe ?_
   refine then_e ?_
   refine then_e ?_
   refine block_e ?_
   refine block_n ?_
   refine then_n ?_
   exact x_to hJ13 (VS.sm 83076749736556942585127102323883003) ⟨x426.1, x426.2.1, rfl, rfl, hF⟩
  refine kF 61 hc2 ?_
  refine xF ?_
  refine xe ?_
  refine then_e ?_
  refine then_e ?_
  refine block_e ?_
  refine then_n ?_
  exact x_to hJ9 (VS.shX [0, 1, 2, 3] 83076749736556944602739735385866235 [34, 68] (by kernel_rfl) (by kernel_rfl) (by kernel_rfl) (by exact ⟨low_junk g43, low_junk g332, trivial⟩) (tights_at [34, 68] (by kernel_rfl) (by exact ⟨(tight_junk g43), (tight_junk g332), trivial⟩)) (shh (b0 := .cells ((cL cPrune_state) y50 ++ [rfv false x384.1 2 2])) (by kernel_rfl) (shb_cells (by kernel_rfl) (by kernel_rfl) (tights_app (tights_lows ((low_cL low_cPrune_state) _)) (tights_cons rfl rfl))) (shh (b0 := .dead) (by kernel_rfl) (shb_dead (by kernel_rfl)) (shh (b0 := rfb cHeld x384.1) (by kernel_rfl) (NoRef.shb (noref_rfb low_cHeld _)) (shh (b0 := .cells ([.ptr 0 0])) (by kernel_rfl) (shb_cells (by kernel_rfl) (by kernel_rfl) (tights_cons rfl rfl)) shh_nil))))) ⟨x384.1, g332, rfl, rfl, hF⟩
 refine xq ?_
 refine wh 6 ?_
 refine we ?_
 refine ng ?_
 refine xb ?_
 refine x_loop (fun d fr H => ∃ (x453 : Int × Int) (g443 : Option Bool) (g444 : Option Bool), fr = [.any, .int .i64 a0, .ptr 2 0, .any, .any, .int .i64 x453.1, .any, .any, .any, .any, .any, .any, .any, .any, .any, .any, .any, .any, .any, .any, .bool false, .any, .any, .any, sl cPrune_state a1, .int .i64 (a1.l.length : Int), .int .i64 x453.2, junkB g443, .any, .any, .any, .any, .any, .any, junkB g444, .any, .any, .any, .any, .any, .any, .any, .any, .any, .any, .any, .any, .any, .any, .any, .any, .any, .any, .any, .any, .any, .any, .any, .any, .any, .any, .any, .any, .any, .any, .any, .any, .any, .any, .any, .any, .any, .any, .any, .any, .any, .any, .any, .any, .any, .any, .any, .any, .any, .any, .any, .any, .any, .any, .any, .any, .any, .any, .any, .any, .any, .any, .any, .any, .any, .any, .any, .any, .any, .any, .any, .any, .any, .any, .any, .any, .any, .any, .any, .any, .any] ∧ H = [.cells ((cL cPrune_state) a1 ++ [rfv false a2 1 2]), rfb cHeld a2, .cells ([.ptr 0 0])] ∧ loopN (prune_Book_Prune_B453 a0 a1 a2) d x453 = some r) (by kernel_rfl) (fun fr H ⟨x453, g443, g444, e1, e2, hF⟩ => loop_no hF) (fun d453 fr H ⟨x453, g443, g444, e1, e2, hF⟩ => ?_) (VS.sm 83076749736557242056487941149032409) ⟨(0, 0), none, none, rfl, rfl, hF⟩
 subst e1 e2
 have hF := loop_in hF
 refine xq ?_
 refine wh 1 ?_
 refine we ?_
 refine ng ?_
 refine xs ?_
 refine ite_elim hF (fun hc4 hF => ?_) (fun hc4 hF => ?_)
 ·refine kT 27 hc4 ?_
  refine xT ?_
  refine xk ?_
  refine ng ?_
  refine xj (fun fr H => ∃ (p455 : Int) (g456 : Option Bool), fr = [.any, .int .i64 a0, .ptr 2 0, .any, .any, .int .i64 p455, .any, .any, .any, .any, .any, .any, .any, .any, .any, .any, .any, .any, .any, .any, .bool false, .any, .any, .any, sl cPrune_state a1, .int .i64 (a1.l.length : Int), .int .i64 x453.2, .bool true, .any, .any, .any, .any, .any, .any, junkB g456, .any, .any, .any, .any, .any, .any, .any, .any, .any, .any, .any, .any, .any, .any, .any, .any, .any, .any, .any, .any, .any, .any, .any, .any, .any, .any, .any, .any, .any, .any, .any, .any, .any, .any, .any, .any, .any, .any, .any, .any, .any, .any, .any, .any, .any, .any, .any, .any, .any, .any, .any, .any, .any, .any, .any, .any, .any, .any, .any, .any, .any, .any, .any, .any, .any, .any, .any, .any, .any, .any, .any, .any, .any, .any, .any, .any, .any, .any, .any, .any, .any] ∧ H = [.cells ((cL cPrune_state) a1 ++ [rfv false a2 1 2]), rfb cHeld a2, .cells ([.ptr 0 0])] ∧ prune_Book_Prune_J17 (loopN (prune_Book_Prune_B453 a0 a1 a2) d453) x453 p455 = some r) (fun fr H ⟨p455, g456, e1, e2, hF⟩ => ?_) (fun hJ17 => ?_)
  ·subst e1 e2
   refine xr ?_
   refine wh 2 ?_
   refine we ?_
   refine then_n ?_
   exact x_back (VS.sm 83076749736557242056487923969163225) ⟨(p455, iAdd .i64 x453.2 1), (some true), g456, rfl, rfl, hF⟩
  refine xb ?_
  refine xq ?_
  refine wh 1 ?_
  refine bind_elim hF (fun y457 hy457 hF => uI cPrune_state 2 hy457 len_cPrune_state ?_)
  refine uE cPrune_state 0 (t := 63) (v := .agg (cPrune_state y457)) 2 2 hy457 len_cPrune_state ?_
  refine wr 6 [.cells ((cL cPrune_state) a1 ++ [rfv false a2 1 2]), rfb cHeld a2, .cells ([.ptr 0 0]), .cells (cPrune_state y457)] ?_
  refine we ?_
  refine ng ?_
  refine xq ?_
  refine wh 4 ?_
  refine we ?_
  refine ng ?_
  refine ite_elim hF (fun hc5 hF => ?_) (fun hc5 hF => ?_)
  ·refine kT 34 hc5 ?_
   refine xT ?_
   refine xr ?_
   refine wh 2 ?_
   refine we ?_
   refine block_n ?_
   refine then_n ?_
   exact x_to hJ17 (VS.si [0, 1, 2] 83076749736557242056487941014814681 (tights_at [24] (by kernel_rfl) (by exact ⟨(tight_sl low_cPrune_state), trivial⟩)) (shh (b0 := .cells ((cL cPrune_state) a1 ++ [rfv false a2 1 2])) (by kernel_rfl) (shb_cells (by kernel_rfl) (by kernel_rfl) (tights_app (tights_lows ((low_cL low_cPrune_state) _)) (tights_cons rfl rfl))) (shh (b0 := rfb cHeld a2) (by kernel_rfl) (NoRef.shb (noref_rfb low_cHeld _)) (shh (b0 := .cells ([.ptr 0 0])) (by kernel_rfl) (shb_cells (by kernel_rfl) (by kernel_rfl) (tights_cons rfl rfl)) shh_nil)))) ⟨x453.2, (some true), rfl, rfl, hF⟩
  refine kF 34 hc5 ?_
  refine xF ?_
  refine xk ?_
  refine block_n ?_
  refine then_n ?_
  exact x_to hJ17 (VS.si [0, 1, 2] 83076749736557242056487941014814681 (tights_at [24] (by kernel_rfl) (by exact ⟨(tight_sl low_cPrune_state), trivial⟩)) (shh (b0 := .cells ((cL cPrune_state) a1 ++ [rfv false a2 1 2])) (by kernel_rfl) (shb_cells (by kernel_rfl) (by kernel_rfl) (tights_app (tights_lows ((low_cL low_cPrune_state) _)) (tights_cons rfl rfl))) (shh (b0 := rfb cHeld a2) (by kernel_rfl) (NoRef.shb (noref_rfb low_cHeld _)) (shh (b0 := .cells ([.ptr 0 0])) (by kernel_rfl) (shb_cells (by kernel_rfl) (by kernel_rfl) (tights_cons rfl rfl)) shh_nil)))) ⟨x453.1, (some false), rfl, rfl, hF⟩
 refine kF 27 hc4 ?_
 refine xF ?_
 refine xe ?_
 refine then_e ?_
 refine then_e ?_
 refine block_e ?_
 refine then_n ?_
 exact x_to hJ5 (VS.sm 83076749736557242056487923952386011) ⟨x453.1, g444, rfl, rfl, hF⟩
def r24_in_J1  : Option (Int × Bool) :=
  some (0, false)
def r24_in_B501 (a0 : Sl Held) (a1 : Int) (k501 : Int → Option (Int × Bool)) (x501 : Int) : Option (Int × Bool) :=
  if iLt x501 (a0.l.length : Int) = true then (idxL a0.l x501).bind fun y504 => if (y504.Number == a1) = true then (idxL a0.l x501).bind fun y505 => some (y505.Size, true) else k501 (iAdd .i64 x501 1) else r24_in_J1
def r24_in (a0 : Sl Held) (a1 : Int) : Option (Int × Bool) :=
  loopN (r24_in_B501 a0 a1) FUEL 0
theorem r24_in_ev {a0 : Sl Held} {a1 : Int} {r : Int × Bool} (hF : r24_in a0 a1 = some r) : EvCall Try.prog T G0 45 [sl cHeld a0, .int .i64 a1] [] (fun v H' => v = .tup [.int .i64 r.1, .bool r.2] ∧ H' = []) := by
 refine xc Try.func45 ?_
 refine xq ?_
 refine wh 2 ?_
 refine we ?_
 refine ng ?_
 refine xj (fun fr H => ∃ (g486 : Option Bool), fr = [.any, .any, .any, .any, .any, .bool false, .any, .any, .any, .any, .bool false, .any, .any, .any, .any, .any, .any, .any, .any, junkB g486, .any, .any, .any, .any, .any] ∧ H = [] ∧ r24_in_J1 = some r) (fun fr H ⟨g486, e1, e2, hF⟩ => ?_) (fun hJ1 => ?_)
 ·subst e1 e2
  refine xq ?_
  refine wh 2 ?_
  refine we ?_
  refine ng ?_
  refine xt ?_
  have e := Option.some.inj hF
  subst e
  exact fE [] (.inl rfl) (low_tup (lows_cons rfl (lows_cons rfl rfl))) ⟨rfl, rfl⟩
 refine xq ?_
 refine wh 1 ?_
 refine we ?_
 refine ng ?_
 refine xb ?_
 refine x_loop (fun d fr H => ∃ (x501 : Int) (g492 : Option Bool) (g493 : Option Bool), fr = [sl cHeld a0, .int .i64 a1, .any, .any, .any, .bool false, .int .i64 x501, .any, .any, .any, junkB g492, .any, .any, .any, .any, .any, .any, .any, .any, junkB g493, .any, .any, .any, .any, .any] ∧ H = [] ∧ loopN (r24_in_B501 a0 a1) d x501 = some r) (by kernel_rfl) (fun fr H ⟨x501, g492, g493, e1, e2, hF⟩ => loop_no hF) (fun d501 fr H ⟨x501, g492, g493, e1, e2, hF⟩ => ?_) (VS.sm 33554332) ⟨0, none, none, rfl, rfl, hF⟩
 subst e1 e2
 have hF := loop_in hF
 refine xs ?_
 refine xq ?_
 refine wh 4 ?_
 refine we ?_
 refine ng ?_
 refine ite_elim hF (fun hc1 hF => ?_) (fun hc1 hF => ?_)
 ·refine kT 10 hc1 ?_
  refine xT ?_
  refine xk ?_
  refine ng ?_
  refine xs ?_
  refine xb ?_
  refine xq ?_
  refine wh 2 ?_
  refine bind_elim hF (fun y504 hy504 hF => uI cHeld 2 hy504 len_cHeld ?_)
  refine wh 4 ?_
  refine uE cHeld 0 (t := 3) (v := .int .i64 y504.Number) 2 1 hy504 len_cHeld ?_
  refine wh 7 ?_
  refine we ?_
  refine ng ?_
  refine ite_elim hF (fun hc2 hF => ?_) (fun hc2 hF => ?_)
  ·refine kT 19 hc2 ?_
   refine xT ?_
   refine xq ?_
   refine wh 2 ?_
   refine bind_elim hF (fun y505 hy505 hF => uI cHeld 2 hy505 len_cHeld ?_)
   refine wh 4 ?_
   refine uE cHeld 1 (t := 3) (v := .int .i64 y505.Size) 2 1 hy505 len_cHeld ?_
   refine wh 7 ?_
   refine we ?_
   refine ng ?_
   refine xt ?_
   refine block_r ?_
   refine then_r ?_
   refine then_r ?_
   refine block_r ?_
   refine then_r ?_
   have e := Option.some.inj hF
   subst e
   exact fE [] (.inl rfl) (low_tup (lows_cons rfl (lows_cons rfl rfl))) ⟨rfl, rfl⟩
  refine kF 19 hc2 ?_
  refine xF ?_
  refine xk ?_
  refine block_n ?_
  refine ng ?_
  refine xr ?_
  refine wh 3 ?_
  refine we ?_
  refine then_n ?_
  exact x_back (VS.sm 33554332) ⟨iAdd .i64 x501 1, (some true), (some false), rfl, rfl, hF⟩
 refine kF 10 hc1 ?_
 refine xF ?_
 refine xe ?_
 refine then_e ?_
 refine then_e ?_
 refine block_e ?_
 refine then_n ?_
 exact x_to hJ1 (VS.sm 33029087) ⟨g493, rfl, rfl, hF⟩
def r24_Book_Has_J1  : Option Bool :=
  some false
def r24_Book_Has_B510 (a0 : Int) (a1 : Sl Affidavitref24_State) (k510 : Int → Option Bool) (x510 : Int) : Option Bool :=
  if iLt x510 (a1.l.length : Int) = true then (idxL a1.l x510).bind fun y513 => (r24_in y513.L a0).bind fun y514 => if y514.2 = true then some true else k510 (iAdd .i64 x510 1) else r24_Book_Has_J1
def r24_Book_Has (a0 : Int) (a1 : Sl Affidavitref24_State) (a2 : Sl Held) : Option Bool :=
  loopN (r24_Book_Has_B510 a0 a1) FUEL 0
theorem r24_Book_Has_ev {a0 : Int} {a1 : Sl Affidavitref24_State} {a2 : Sl Held} {r : Bool} (hF : r24_Book_Has a0 a1 a2 = some r) : EvCall Try.prog T G0 30 [.ptr 0 0, .int .i64 a0] [.cells ((cL cAffidavitref24_State) a1 ++ (cL cHeld) a2)] (fun v H' => v = .bool r ∧ H' = [.cells ((cL cAffidavitref24_State) a1 ++ (cL cHeld) a2)]) := by
 refine xc Try.func30 ?_
 refine xq ?_
 refine wh 1 ?_
 refine we ?_
 refine ng ?_
 refine xj (fun fr H => ∃ (g489 : Option Bool) (g490 : Option Bool) (g491 : Option Bool), fr = [.any, .any, .any, .any, .bool false, .any, .any, junkB g489, .any, .any, .any, .any, .any, .any, .bool false, .any, .any, .any, .any, .any, .any, .any, .any, .any, .any, .any, .any, .any, .any, junkB g490, junkB g491] ∧ H = [.cells ((cL cAffidavitref24_State) a1 ++ (cL cHeld) a2)] ∧ r24_Book_Has_J1 = some r) (fun fr H ⟨g489, g490, g491, e1, e2, hF⟩ => ?_) (fun hJ1 => ?_)
 ·subst e1 e2
  refine xq ?_
  refine wh 1 ?_
  refine we ?_
  refine ng ?_
  refine xt ?_
  have e := Option.some.inj hF
  subst e
  exact fS [0] (.inl rfl) rfl (shh (b0 := .cells ((cL cAffidavitref24_State) a1 ++ (cL cHeld) a2)) (by kernel_rfl) (shb_cells (by kernel_rfl) (by kernel_rfl) (tights_app (tights_lows ((low_cL low_cAffidavitref24_State) _)) (tights_lows ((low_cL low_cHeld) _)))) shh_nil) ⟨rfl, rfl⟩
 refine xq ?_
 refine wh 1 ?_
 refine we ?_
 refine ng ?_
 refine xb ?_
 refine x_loop (fun d fr H => ∃ (x510 : Int) (g497 : Option Bool) (g498 : Option Bool) (g499 : Option Bool) (g500 : Option Bool), fr = [.ptr 0 0, .int .i64 a0, .any, .any, .bool false, .int .i64 x510, .any, junkB g497, .any, .any, .any, .any, .any, .any, junkB g498, .any, .any, .any, .any, .any, .any, .any, .any, .any, .any, .any, .any, .any, .any, junkB g499, junkB g500] ∧ H = [.cells ((cL cAffidavitref24_State) a1 ++ (cL cHeld) a2)] ∧ loopN (r24_Book_Has_B510 a0 a1) d x510 = some r) (by kernel_rfl) (fun fr H ⟨x510, g497, g498, g499, g500, e1, e2, hF⟩ => loop_no hF) (fun d510 fr H ⟨x510, g497, g498, g499, g500, e1, e2, hF⟩ => ?_) (VS.sm 2147483596) ⟨0, none, none, none, none, rfl, rfl, hF⟩
 subst e1 e2
 have hF := loop_in hF
 refine xs ?_
 refine xq ?_
 refine wh 7 ?_
 refine we ?_
 refine ng ?_
 refine ite_elim hF (fun hc1 hF => ?_) (fun hc1 hF => ?_)
 ·refine kT 14 hc1 ?_
  refine xT ?_
  refine xk ?_
  refine ng ?_
  refine xs ?_
  refine xb ?_
  refine xq ?_
  refine wh 5 ?_
  refine bind_elim hF (fun y513 hy513 hF => uI cAffidavitref24_State 2 hy513 len_cAffidavitref24_State ?_)
  refine wh 7 ?_
  refine uE cAffidavitref24_State 1 (t := 27) (v := sl cHeld y513.L) 2 1 hy513 len_cAffidavitref24_State ?_
  refine wh 9 ?_
  refine bind_elim hF (fun y514 hy514 hF => uC (r24_in_ev hy514) (lows_cons (low_sl low_cHeld) (lows_cons rfl rfl)) (low_tup (lows_cons rfl (lows_cons rfl rfl))) ?_)
  refine wh 15 ?_
  refine we ?_
  refine ng ?_
  refine xq ?_
  refine wh 1 ?_
  refine we ?_
  refine ng ?_
  refine ite_elim hF (fun hc2 hF => ?_) (fun hc2 hF => ?_)
  ·refine kT 30 hc2 ?_
   refine xT ?_
   refine xq ?_
   refine wh 1 ?_
   refine we ?_
   refine ng ?_
   refine xt ?_
   refine block_r ?_
   refine then_r ?_
   refine then_r ?_
   refine block_r ?_
   refine then_r ?_
   have e := Option.some.inj hF
   subst e
   exact fS [0] (.inl rfl) rfl (shh (b0 := .cells ((cL cAffidavitref24_State) a1 ++ (cL cHeld) a2)) (by kernel_rfl) (shb_cells (by kernel_rfl) (by kernel_rfl) (tights_app (tights_lows ((low_cL low_cAffidavitref24_State) _)) (tights_lows ((low_cL low_cHeld) _)))) shh_nil) ⟨rfl, rfl⟩
  refine kF 30 hc2 ?_
  refine xF ?_
  refine xk ?_
  refine block_n ?_
  refine ng ?_
  refine xr ?_
  refine wh 3 ?_
  refine we ?_
  refine then_n ?_
  exact x_back (VS.sm 2147483596) ⟨iAdd .i64 x510 1, (some y514.2), (some true), (some y514.2), (some false), rfl, rfl, hF⟩
 refine kF 14 hc1 ?_
 refine xF ?_
 refine xe ?_
 refine then_e ?_
 refine then_e ?_
 refine block_e ?_
 refine then_n ?_
 exact x_to hJ1 (VS.sm 536854383) ⟨g497, g499, g500, rfl, rfl, hF⟩
def r24_put_J2 (a0 : Sl Held) (a1 : Held) (p552 : Int) : Option (Sl Held) :=
  (cutL a0 none (some p552) none).bind fun y572 => (cutL a0 (some p552) none none).bind fun y573 => (appL 16 (⟨false, true, []⟩ : Sl Held) y572.l).bind fun y574 => (appL 16 y574 (⟨false, true, [a1]⟩ : Sl Held).l).bind fun y575 => (appL 16 y575 y573.l).bind fun y576 => some y576.weak
def r24_put_J1 (a0 : Sl Held) (a1 : Held) (p552 : Int) : Option (Sl Held) :=
  if iLt p552 (a0.l.length : Int) = true then (idxL a0.l p552).bind fun y580 => if (y580.Number == a1.Number) = true then some a0 else r24_put_J2 a0 a1 p552 else r24_put_J2 a0 a1 p552
def r24_put_B607 (a0 : Sl Held) (a1 : Held) (k607 : Int → Option (Sl Held)) (x607 : Int) : Option (Sl Held) :=
  if iLt x607 (a0.l.length : Int) = true then (idxL a0.l x607).bind fun y615 => if iLt y615.Number a1.Number = true then k607 (iAdd .i64 x607 1) else r24_put_J1 a0 a1 x607 else r24_put_J1 a0 a1 x607
def r24_put (a0 : Sl Held) (a1 : Held) : Option (Sl Held) :=
  loopN (r24_put_B607 a0 a1) FUEL 0
theorem r24_put_ev {a0 : Sl Held} {a1 : Held} {r : (Sl Held)} (hF : r24_put a0 a1 = some r) : EvCall Try.prog T G0 31 [sl cHeld a0, .agg (cHeld a1)] [] (fun v H' => v = sl cHeld r ∧ H' = []) := by
 refine xc Try.func31 ?_
 refine xq ?_
 refine wr 2 [.cells (cHeld a1)] ?_
 refine we ?_
 refine ng ?_
 refine xq ?_
 refine wh 1 ?_
 refine we ?_
 refine ng ?_
 refine xj (fun fr H => ∃ (p552 : Int) (g553 : Option Bool) (g554 : Option Bool) (g555 : Option Bool), fr = [sl cHeld a0, .any, .any, .ptr 0 0, .any, .int .i64 p552, .any, .any, .any, junkB g553, junkB g554, .any, .any, .any, .any, .any, .any, .any, junkB g555, .bool false, .any, .any, .any, .any, .any, .any, .any, .any, .any, .any, .any, .any, .any, .any, .any, .any, .any, .any, .any, .any, .any, .any, .any, .any, .any, .any, .any, .any, .any] ∧ H = [.cells (cHeld a1)] ∧ r24_put_J1 a0 a1 p552 = some r) (fun fr H ⟨p552, g553, g554, g555, e1, e2, hF⟩ => ?_) (fun hJ1 => ?_)
 ·subst e1 e2
  refine xj (fun fr H => ∃ (g560 : Option Bool) (g561 : Option Bool), fr = [sl cHeld a0, .any, .any, .ptr 0 0, .any, .int .i64 p552, .any, .any, .any, junkB g553, junkB g554, .any, .any, .any, .any, .any, .any, .any, junkB g555, .bool false, .any, .any, .any, .any, .any, .bool (iLt p552 (a0.l.length : Int)), junkB g560, .any, .any, .any, .any, .any, .any, .any, junkB g561, .bool false, .any, .any, .any, .any, .any, .any, .any, .any, .any, .any, .any, .any, .any] ∧ H = [.cells (cHeld a1)] ∧ r24_put_J2 a0 a1 p552 = some r) (fun fr H ⟨g560, g561, e1, e2, hF⟩ => ?_) (fun hJ2 => ?_)
  ·subst e1 e2
   refine xs ?_
   refine x_rows 0 5999 [⟨4, [], [5, 8, 9, 10], [6], [5]⟩, ⟨7, [], [8, 9, 10], [], []⟩, ⟨11, [12], [12], [], []⟩] call_ends callMono (by kernel_rfl) (by kernel_rfl) ?_
   refine w_frz (v := sl cHeld (⟨false, true, []⟩ : Sl Held)) (by kernel_rfl) ?_
   refine wp 3 ?_
   refine bind_elim hF (fun y572 hy572 hF => w_slice cHeld (sz := 2) hy572 (by kernel_rfl) len_cHeld (fun e => by cases e) ?_)
   refine wp 5 ?_
   refine w_frz (v := sl cHeld (⟨false, true, [a1]⟩ : Sl Held)) (by kernel_rfl) ?_
   refine wp 8 ?_
   refine bind_elim hF (fun y573 hy573 hF => w_slice cHeld (sz := 2) hy573 (by kernel_rfl) len_cHeld (fun e => by cases e) ?_)
   refine we ?_
   refine rows_next ?_
   refine bind_elim hF (fun y574 hy574 hF => w_app0 cHeld (e := 41) (sz := 2) (x := (⟨false, true, []⟩ : Sl Held)) (ys := y572.l) hy574 (by kernel_rfl) (by kernel_rfl) (by decide) len_cHeld (gives_sl (x := y572) (by kernel_rfl) len_cHeld) ?_)
   refine we ?_
   refine ⟨⟨(by kernel_rfl), chks_of (by kernel_rfl) (by kernel_rfl)⟩, ?_⟩
   refine we ?_
   refine rows_next ?_
   refine bind_elim hF (fun y575 hy575 hF => w_app cHeld (e := 41) (sz := 2) (l0 := 1) (real := (!(y572.l.length == 0))) (ver := 1) (x := y574) (ys := (⟨false, true, [a1]⟩ : Sl Held).l) hy575 (by kernel_rfl) (by decide) (gives_sl (x := (⟨false, true, [a1]⟩ : Sl Held)) (by kernel_rfl) len_cHeld) (room_at (by kernel_rfl)) ?_)
   refine we ?_
   refine ⟨⟨(by kernel_rfl), trivial⟩, ?_⟩
   refine we ?_
   refine rows_next ?_
   refine bind_elim hF (fun y576 hy576 hF => w_app cHeld (e := 41) (sz := 2) (l0 := 1) (real := ((!(y572.l.length == 0)) || !((⟨false, true, [a1]⟩ : Sl Held).l.length == 0))) (ver := (1 + 1)) (x := y575) (ys := y573.l) hy576 (by kernel_rfl) (by decide) (gives_sl (x := y573) (by kernel_rfl) len_cHeld) (room_at (by kernel_rfl)) ?_)
   refine we ?_
   refine ⟨⟨(by kernel_rfl), trivial⟩, ?_⟩
   refine wp 1 ?_
   refine we ?_
   refine rows_done ?_
   refine de ?_
   refine ng ?_
   refine xt ?_
   have e := Option.some.inj hF
   subst e
   exact fE [] (.inl rfl) (low_sl low_cHeld) ⟨rfl, rfl⟩
  refine xs ?_
  refine xd 0 call_ends callMono ?_
  refine wp 5 ?_
  refine ite_elim hF (fun hc1 hF => ?_) (fun hc1 hF => ?_)
  ·refine wT 26 hc1 ?_
   refine wp 7 ?_
   refine bind_elim hF (fun y580 hy580 hF => uI cHeld 2 hy580 len_cHeld ?_)
   refine wp 9 ?_
   refine uE cHeld 0 (t := 3) (v := .int .i64 y580.Number) 2 1 hy580 len_cHeld ?_
   refine wp 14 ?_
   refine we ?_
   refine de ?_
   refine ng ?_
   refine ite_elim hF (fun hc2 hF => ?_) (fun hc2 hF => ?_)
   ·refine kT 35 hc2 ?_
    refine xT ?_
    refine xq ?_
    refine wh 2 ?_
    refine we ?_
    refine ng ?_
    refine xt ?_
    refine then_r ?_
    have e := Option.some.inj hF
    subst e
    exact fE [] (.inl rfl) (low_sl low_cHeld) ⟨rfl, rfl⟩
   refine kF 35 hc2 ?_
   refine xF ?_
   refine xk ?_
   refine then_n ?_
   exact x_to hJ2 (VS.sm 562915559340502) ⟨(some true), (some (y580.Number == a1.Number)), rfl, rfl, hF⟩
  refine wF 26 hc1 ?_
  refine wp 14 ?_
  refine we ?_
  refine de ?_
  refine ng ?_
  refine xF ?_
  refine xk ?_
  refine then_n ?_
  exact x_to hJ2 (VS.sm 562915559340502) ⟨(some false), none, rfl, rfl, hF⟩
 refine xb ?_
 refine x_loop (fun d fr H => ∃ (x607 : Int) (g590 : Option Bool) (g591 : Option Bool) (g592 : Option Bool) (g593 : Option Bool), fr = [sl cHeld a0, .any, .any, .ptr 0 0, .any, .int .i64 x607, .any, .any, .any, junkB g590, junkB g591, .any, .any, .any, .any, .any, .any, .any, junkB g592, junkB g593, .any, .any, .any, .any, .any, .any, .any, .any, .any, .any, .any, .any, .any, .any, .any, .any, .any, .any, .any, .any, .any, .any, .any, .any, .any, .any, .any, .any, .any] ∧ H = [.cells (cHeld a1)] ∧ loopN (r24_put_B607 a0 a1) d x607 = some r) (by kernel_rfl) (fun fr H ⟨x607, g590, g591, g592, g593, e1, e2, hF⟩ => loop_no hF) (fun d607 fr H ⟨x607, g590, g591, g592, g593, e1, e2, hF⟩ => ?_) (VS.sm 562949953421270) ⟨0, none, none, none, none, rfl, rfl, hF⟩
 subst e1 e2
 have hF := loop_in hF
 refine xs ?_
 refine xs ?_
 refine xd 0 call_ends callMono ?_
 refine wp 5 ?_
 refine ite_elim hF (fun hc3 hF => ?_) (fun hc3 hF => ?_)
 ·refine wT 10 hc3 ?_
  refine wp 7 ?_
  refine bind_elim hF (fun y615 hy615 hF => uI cHeld 2 hy615 len_cHeld ?_)
  refine wp 9 ?_
  refine uE cHeld 0 (t := 3) (v := .int .i64 y615.Number) 2 1 hy615 len_cHeld ?_
  refine wp 14 ?_
  refine we ?_
  refine de ?_
  refine ng ?_
  refine ite_elim hF (fun hc4 hF => ?_) (fun hc4 hF => ?_)
  ·refine kT 19 hc4 ?_
   refine xT ?_
   refine xk ?_
   refine ng ?_
   refine xb ?_
   refine xr ?_
   refine wh 3 ?_
   refine we ?_
   refine block_n ?_
   refine then_n ?_
   exact x_back (VS.sm 562949953421270) ⟨iAdd .i64 x607 1, (some (iLt x607 (a0.l.length : Int))), (some true), (some (iLt y615.Number a1.Number)), (some true), rfl, rfl, hF⟩
  refine kF 19 hc4 ?_
  refine xF ?_
  refine xe ?_
  refine then_e ?_
  refine then_e ?_
  refine block_e ?_
  refine then_n ?_
  exact x_to hJ1 (VS.sm 562949952896982) ⟨x607, (some (iLt x607 (a0.l.length : Int))), (some true), (some (iLt y615.Number a1.Number)), rfl, rfl, hF⟩
 refine wF 10 hc3 ?_
 refine wp 14 ?_
 refine we ?_
 refine de ?_
 refine ng ?_
 refine xF ?_
 refine xe ?_
 refine then_e ?_
 refine then_e ?_
 refine block_e ?_
 refine then_n ?_
 exact x_to hJ1 (VS.sm 562949952896982) ⟨x607, (some (iLt x607 (a0.l.length : Int))), (some false), none, rfl, rfl, hF⟩
def r24_Book_Prune_J11 (p706 : Sl Affidavitref24_State) (p745 : Sl Int) (p749 : Sl Held) : Option ((Sl Int) × (Sl Affidavitref24_State) × (Sl Held)) :=
  some (p745.weak, p706, p749)
def r24_Book_Prune_B783 (p706 : Sl Affidavitref24_State) (k783 : ((Sl Int) × (Sl Held)) → Option ((Sl Int) × (Sl Affidavitref24_State) × (Sl Held))) (x783 : (Sl Int) × (Sl Held)) : Option ((Sl Int) × (Sl Affidavitref24_State) × (Sl Held)) :=
  if iGt (x783.2.l.length : Int) 0 = true then if iLt (x783.1.l.length : Int) 64 = true then (idxL x783.2.l 0).bind fun y784 => (appL 8 x783.1 (⟨false, true, [y784.Number]⟩ : Sl Int).l).bind fun y785 => (cutL x783.2 (some 1) none none).bind fun y786 => k783 (y785, y786) else r24_Book_Prune_J11 p706 x783.1 x783.2 else r24_Book_Prune_J11 p706 x783.1 x783.2
def r24_Book_Prune_J10 (p706 : Sl Affidavitref24_State) (p707 : Sl Held) : Option ((Sl Int) × (Sl Affidavitref24_State) × (Sl Held)) :=
  loopN (r24_Book_Prune_B783 p706) FUEL (⟨true, true, []⟩, p707)
def r24_Book_Prune_J20 (k1008 : (Int × (Sl Held)) → Option ((Sl Int) × (Sl Affidavitref24_State) × (Sl Held))) (x1008 : Int × (Sl Held)) (p1019 : Sl Held) : Option ((Sl Int) × (Sl Affidavitref24_State) × (Sl Held)) :=
  k1008 (iAdd .i64 x1008.1 1, p1019)
def r24_Book_Prune_B1008 (k953 : ((Sl Affidavitref24_State) × (Sl Held)) → Option ((Sl Int) × (Sl Affidavitref24_State) × (Sl Held))) (y958 : Affidavitref24_State) (y959 : Sl Affidavitref24_State) (k1008 : (Int × (Sl Held)) → Option ((Sl Int) × (Sl Affidavitref24_State) × (Sl Held))) (x1008 : Int × (Sl Held)) : Option ((Sl Int) × (Sl Affidavitref24_State) × (Sl Held)) :=
  if iLt x1008.1 (y958.L.l.length : Int) = true then (idxL y958.L.l x1008.1).bind fun y1020 => (r24_Book_Has y1020.Number y959 x1008.2).bind fun y1021 => if y1021 = true then r24_Book_Prune_J20 k1008 x1008 x1008.2 else (idxL y958.L.l x1008.1).bind fun y1026 => (r24_put x1008.2 y1026).bind fun y1027 => r24_Book_Prune_J20 k1008 x1008 y1027 else k953 (y959, x1008.2)
def r24_Book_Prune_B953 (a0 : Int) (k953 : ((Sl Affidavitref24_State) × (Sl Held)) → Option ((Sl Int) × (Sl Affidavitref24_State) × (Sl Held))) (x953 : (Sl Affidavitref24_State) × (Sl Held)) : Option ((Sl Int) × (Sl Affidavitref24_State) × (Sl Held)) :=
  if iGt (x953.1.l.length : Int) 1 = true then (idxL x953.1.l 1).bind fun y957 => if iLe y957.N a0 = true then (idxL x953.1.l 0).bind fun y958 => (cutL x953.1 (some 1) none none).bind fun y959 => loopN (r24_Book_Prune_B1008 k953 y958 y959) FUEL (0, x953.2) else r24_Book_Prune_J10 x953.1 x953.2 else r24_Book_Prune_J10 x953.1 x953.2
def r24_Book_Prune (a0 : Int) (a1 : Sl Affidavitref24_State) (a2 : Sl Held) : Option ((Sl Int) × (Sl Affidavitref24_State) × (Sl Held)) :=
  loopN (r24_Book_Prune_B953 a0) FUEL (a1, a2)
theorem r24_Book_Prune_ev {a0 : Int} {a1 : Sl Affidavitref24_State} {a2 : Sl Held} {r : (Sl Int) × (Sl Affidavitref24_State) × (Sl Held)} (hF : r24_Book_Prune a0 a1 a2 = some r) : EvCall Try.prog T G0 14 [.ptr 0 0, .int .i64 a0] [.cells ((cL cAffidavitref24_State) a1 ++ (cL cHeld) a2)] (fun v H' => v = sl (cI .i64) r.1 ∧ H' = [.cells ((cL cAffidavitref24_State) r.2.1 ++ (cL cHeld) r.2.2)]) := by
 refine xc Try.func14 ?_
 refine xq ?_
 refine wh 1 ?_
 refine we ?_
 refine ng ?_
 refine xj (fun fr H => ∃ (p706 : Sl Affidavitref24_State) (p707 : Sl Held) (g700 : Option Bool) (g701 : Option Bool) (g702 : Option Bool) (g703 : Option Bool) (g704 : Option Bool) (g705 : Option Bool), fr = [.ptr 0 0, .any, .any, .any, .any, .any, .any, .any, .any, .any, .any, .any, .any, junkB g700, junkB g701, .any, .any, .any, .any, .any, .any, .any, .any, junkB g702, .bool false, .any, .any, .any, .any, .any, .any, .any, .any, .any, .any, .any, .any, .any, .any, .any, .any, .any, .any, junkB g703, .any, .any, .any, .any, .any, .any, .any, .any, junkB g704, junkB g705, .any, .any, .any, .any, .any, .any, .any, .any, .any, .any, .any, .any, .any, .any, .any, .any, .any, .any, .any, .any, .any, .any, .any, .any, .any, .any, .any, .any, .any, .any, .any, .any, .any, .any, .any, .any, .any, .any, .any, .any, .any, .any] ∧ H = [.cells ((cL cAffidavitref24_State) p706 ++ (cL cHeld) p707)] ∧ r24_Book_Prune_J10 p706 p707 = some r) (fun fr H ⟨p706, p707, g700, g701, g702, g703, g704, g705, e1, e2, hF⟩ => ?_) (fun hJ10 => ?_)
 ·subst e1 e2
  refine xq ?_
  refine wh 1 ?_
  refine we ?_
  refine ng ?_
  refine xj (fun fr H => ∃ (p745 : Sl Int) (p749 : Sl Held) (g744 : Nat) (g746 : Option Bool) (g747 : Option Bool) (g748 : Option Bool) (g750 : Bool), fr = [.any, .any, .any, .any, .any, .any, .any, ownv (cI .i64) 1 g744 1 p745, .any, .any, .any, .any, .any, junkB g700, junkB g701, .any, .any, .any, .any, .any, .any, .any, .any, junkB g702, .bool false, .any, .any, .any, .any, .any, .any, .any, .any, .any, .any, .any, .any, .any, .any, .any, .any, .any, .any, junkB g703, .any, .any, .any, .any, .any, .any, .any, .any, junkB g704, junkB g705, .any, .any, .any, .any, .any, .any, .any, .any, .any, .any, .any, .any, .any, .any, .any, .any, .any, junkB g746, junkB g747, .any, .any, junkB g748, .bool false, .any, .any, .any, .any, .any, .any, .any, .any, .any, .any, .any, .any, .any, .any, .any, .any, .any, .any, .any] ∧ H = [.cells ((cL cAffidavitref24_State) p706 ++ (cL cHeld) p749), .room g744 g750] ∧ r24_Book_Prune_J11 p706 p745 p749 = some r) (fun fr H ⟨p745, p749, g744, g746, g747, g748, g750, e1, e2, hF⟩ => ?_) (fun hJ11 => ?_)
  ·subst e1 e2
   refine xq ?_
   refine wh 2 ?_
   refine we ?_
   refine ng ?_
   refine xt ?_
   have e := Option.some.inj hF
   subst e
   exact fS [0] (.inl rfl) (tight_sl low_cI) (shh (b0 := .cells ((cL cAffidavitref24_State) p706 ++ (cL cHeld) p749)) (by kernel_rfl) (shb_cells (by kernel_rfl) (by kernel_rfl) (tights_app (tights_lows ((low_cL low_cAffidavitref24_State) _)) (tights_lows ((low_cL low_cHeld) _)))) shh_nil) ⟨rfl, rfl⟩
  refine xb ?_
  refine x_loop (fun d fr H => ∃ (x783 : (Sl Int) × (Sl Held)) (g764 : Nat) (g766 : Option Bool) (g767 : Option Bool) (g768 : Option Bool) (g769 : Option Bool) (g771 : Bool), fr = [.ptr 0 0, .any, .any, .any, .any, .any, .any, ownv (cI .i64) 1 g764 1 x783.1, .any, .any, .any, .any, .any, junkB g700, junkB g701, .any, .any, .any, .any, .any, .any, .any, .any, junkB g702, .bool false, .any, .any, .any, .any, .any, .any, .any, .any, .any, .any, .any, .any, .any, .any, .any, .any, .any, .any, junkB g703, .any, .any, .any, .any, .any, .any, .any, .any, junkB g704, junkB g705, .any, .any, .any, .any, .any, .any, .any, .any, .any, .any, .any, .any, .any, .any, .any, .any, .any, junkB g766, junkB g767, .any, .any, junkB g768, junkB g769, .any, .any, .any, .any, .any, .any, .any, .any, .any, .any, .any, .any, .any, .any, .any, .any, .any, .any, .any] ∧ H = [.cells ((cL cAffidavitref24_State) p706 ++ (cL cHeld) x783.2), .room g764 g771] ∧ loopN (r24_Book_Prune_B783 p706) d x783 = some r) (by kernel_rfl) (fun fr H ⟨x783, g764, g766, g767, g768, g769, g771, e1, e2, hF⟩ => loop_no hF) (fun d783 fr H ⟨x783, g764, g766, g767, g768, g769, g771, e1, e2, hF⟩ => ?_) (VS.trans (VS.thaw (cI .i64) 7 1 ⟨true, true, []⟩ (by kernel_rfl) rfl (fun _ => rfl)) (VS.sm 79228162514250817998543626110)) ⟨(⟨true, true, []⟩, p707), 1, none, none, none, none, false, rfl, rfl, hF⟩
  subst e1 e2
  have hF := loop_in hF
  refine xs ?_
  refine xq ?_
  refine wh 7 ?_
  refine ite_elim hF (fun hc1 hF => ?_) (fun hc1 hF => ?_)
  ·refine wT 72 hc1 ?_
   refine wh 11 ?_
   refine we ?_
   refine ng ?_
   refine ite_elim hF (fun hc2 hF => ?_) (fun hc2 hF => ?_)
   ·refine kT 76 hc2 ?_
    refine xT ?_
    refine xk ?_
    refine ng ?_
    refine xb ?_
    refine xq ?_
    refine wh 5 ?_
    refine bind_elim hF (fun y784 hy784 hF => uI cHeld 2 hy784 len_cHeld ?_)
    refine wh 7 ?_
    refine uE cHeld 0 (t := 3) (v := .int .i64 y784.Number) 2 1 hy784 len_cHeld ?_
    refine w_frz (v := sl (cI .i64) (⟨false, true, [y784.Number]⟩ : Sl Int)) (by kernel_rfl) ?_
    refine bind_elim hF (fun y785 hy785 hF => w_app (cI .i64) (e := 3) (sz := 1) (l0 := 1) (real := g771) (ver := g764) (x := x783.1) (ys := (⟨false, true, [y784.Number]⟩ : Sl Int).l) hy785 (by kernel_rfl) (by decide) (gives_sl (x := (⟨false, true, [y784.Number]⟩ : Sl Int)) (by kernel_rfl) (fun _ => rfl)) (room_at (by kernel_rfl)) ?_)
    refine wr 11 [.cells ((cL cAffidavitref24_State) p706 ++ (cL cHeld) x783.2), .room (g764 + 1) (g771 || !((⟨false, true, [y784.Number]⟩ : Sl Int).l.length == 0))] ?_
    refine we ?_
    refine ng ?_
    refine xr ?_
    refine wh 5 ?_
    refine bind_elim hF (fun y786 hy786 hF => w_slice cHeld (sz := 2) hy786 (by kernel_rfl) len_cHeld (fun e => by cases e) ?_)
    refine wr 9 [.cells ((cL cAffidavitref24_State) p706 ++ (cL cHeld) y786), .room (g764 + 1) (g771 || !((⟨false, true, [y784.Number]⟩ : Sl Int).l.length == 0))] ?_
    refine we ?_
    refine block_n ?_
    refine then_n ?_
    exact x_back (VS.sm 79228162514250817998543626110) ⟨(y785, y786), (g764 + 1), (some (iGt (x783.2.l.length : Int) 0)), (some true), (some (iLt (x783.1.l.length : Int) 64)), (some true), (g771 || !((⟨false, true, [y784.Number]⟩ : Sl Int).l.length == 0)), rfl, rfl, hF⟩
   refine kF 76 hc2 ?_
   refine xF ?_
   refine xe ?_
   refine then_e ?_
   refine then_e ?_
   refine block_e ?_
   refine then_n ?_
   exact x_to hJ11 (VS.sm 79228086956387092084220206975) ⟨x783.1, x783.2, g764, (some (iGt (x783.2.l.length : Int) 0)), (some true), (some (iLt (x783.1.l.length : Int) 64)), g771, rfl, rfl, hF⟩
  refine wF 72 hc1 ?_
  refine wh 11 ?_
  refine we ?_
  refine ng ?_
  refine xF ?_
  refine xe ?_
  refine then_e ?_
  refine then_e ?_
  refine block_e ?_
  refine then_n ?_
  exact x_to hJ11 (VS.sm 79228086956387092084220206975) ⟨x783.1, x783.2, g764, (some (iGt (x783.2.l.length : Int) 0)), (some false), none, g771, rfl, rfl, hF⟩
 refine xb ?_
 refine x_loop (fun d fr H => ∃ (x953 : (Sl Affidavitref24_State) × (Sl Held)) (g861 : Option Bool) (g862 : Option Bool) (g863 : Option Bool) (g864 : Option Bool) (g865 : Option Bool) (g866 : Option Bool) (g867 : Option Bool), fr = [.ptr 0 0, .int .i64 a0, .any, .any, .any, .any, .any, .any, .any, .any, .any, .any, .any, junkB g861, junkB g862, .any, .any, .any, .any, .any, .any, .any, .any, junkB g863, junkB g864, .any, .any, .any, .any, .any, .any, .any, .any, .any, .any, .any, .any, .any, .any, .any, .any, .any, .any, junkB g865, .any, .any, .any, .any, .any, .any, .any, .any, junkB g866, junkB g867, .any, .any, .any, .any, .any, .any, .any, .any, .any, .any, .any, .any, .any, .any, .any, .any, .any, .any, .any, .any, .any, .any, .any, .any, .any, .any, .any, .any, .any, .any, .any, .any, .any, .any, .any, .any, .any, .any, .any, .any, .any, .any] ∧ H = [.cells ((cL cAffidavitref24_State) x953.1 ++ (cL cHeld) x953.2)] ∧ loopN (r24_Book_Prune_B953 a0) d x953 = some r) (by kernel_rfl) (fun fr H ⟨x953, g861, g862, g863, g864, g865, g866, g867, e1, e2, hF⟩ => loop_no hF) (fun d953 fr H ⟨x953, g861, g862, g863, g864, g865, g866, g867, e1, e2, hF⟩ => ?_) (VS.sm 79228162514264337593543950332) ⟨(a1, a2), none, none, none, none, none, none, none, rfl, rfl, hF⟩
 subst e1 e2
 have hF := loop_in hF
 refine xs ?_
 refine xq ?_
 refine wh 7 ?_
 refine ite_elim hF (fun hc3 hF => ?_) (fun hc3 hF => ?_)
 ·refine wT 14 hc3 ?_
  refine wh 11 ?_
  refine bind_elim hF (fun y957 hy957 hF => uI cAffidavitref24_State 2 hy957 len_cAffidavitref24_State ?_)
  refine wh 13 ?_
  refine uE cAffidavitref24_State 0 (t := 3) (v := .int .i64 y957.N) 2 1 hy957 len_cAffidavitref24_State ?_
  refine wh 17 ?_
  refine we ?_
  refine ng ?_
  refine ite_elim hF (fun hc4 hF => ?_) (fun hc4 hF => ?_)
  ·refine kT 24 hc4 ?_
   refine xT ?_
   refine xk ?_
   refine ng ?_
   refine xb ?_
   refine xq ?_
   refine wh 4 ?_
   refine bind_elim hF (fun y958 hy958 hF => uI cAffidavitref24_State 2 hy958 len_cAffidavitref24_State ?_)
   refine wh 6 ?_
   refine uE cAffidavitref24_State 1 (t := 27) (v := sl cHeld y958.L) 2 1 hy958 len_cAffidavitref24_State ?_
   refine wh 8 ?_
   refine we ?_
   refine ng ?_
   refine xq ?_
   refine wh 5 ?_
   refine bind_elim hF (fun y959 hy959 hF => w_slice cAffidavitref24_State (sz := 2) hy959 (by kernel_rfl) len_cAffidavitref24_State (fun e => by cases e) ?_)
   refine wr 9 [.cells ((cL cAffidavitref24_State) y959 ++ (cL cHeld) x953.2)] ?_
   refine we ?_
   refine ng ?_
   refine xq ?_
   refine wh 1 ?_
   refine we ?_
   refine ng ?_
   refine xb ?_
   refine x_loop (fun d fr H => ∃ (x1008 : Int × (Sl Held)) (g980 : Option Bool) (g981 : Option Bool) (g982 : Option Bool), fr = [.ptr 0 0, .int .i64 a0, .any, .any, .any, sl cHeld y958.L, .int .i64 x1008.1, .any, .any, .any, .any, .any, .any, .bool (iGt (x953.1.l.length : Int) 1), .bool true, .any, .any, .any, .any, .any, .any, .any, .any, .bool (iLe y957.N a0), .bool true, .any, .any, .any, .any, .any, .any, .any, .any, .any, .any, .any, .any, .any, .any, .any, .any, .any, .any, junkB g980, .any, .any, .any, .any, .any, .any, .any, .any, junkB g981, junkB g982, .any, .any, .any, .any, .any, .any, .any, .any, .any, .any, .any, .any, .any, .any, .any, .any, .any, .any, .any, .any, .any, .any, .any, .any, .any, .any, .any, .any, .any, .any, .any, .any, .any, .any, .any, .any, .any, .any, .any, .any, .any, .any] ∧ H = [.cells ((cL cAffidavitref24_State) y959 ++ (cL cHeld) x1008.2)] ∧ loopN (r24_Book_Prune_B1008 (loopN (r24_Book_Prune_B953 a0) d953) y958 y959) d x1008 = some r) (by kernel_rfl) (fun fr H ⟨x1008, g980, g981, g982, e1, e2, hF⟩ => loop_no hF) (fun d1008 fr H ⟨x1008, g980, g981, g982, e1, e2, hF⟩ => ?_) (VS.sm 79228162514250817998543626140) ⟨(0, x953.2), g865, g866, g867, rfl, rfl, hF⟩
   subst e1 e2
   have hF := loop_in hF
   refine xs ?_
   refine xq ?_
   refine wh 4 ?_
   refine we ?_
   refine ng ?_
   refine ite_elim hF (fun hc5 hF => ?_) (fun hc5 hF => ?_)
   ·refine kT 43 hc5 ?_
    refine xT ?_
    refine xk ?_
    refine ng ?_
    refine xj (fun fr H => ∃ (p1019 : Sl Held) (g1017 : Option Bool) (g1018 : Option Bool), fr = [.ptr 0 0, .int .i64 a0, .any, .any, .any, sl cHeld y958.L, .int .i64 x1008.1, .any, .any, .any, .any, .any, .any, .bool (iGt (x953.1.l.length : Int) 1), .bool true, .any, .any, .any, .any, .any, .any, .any, .any, .bool (iLe y957.N a0), .bool true, .any, .any, .any, .any, .any, .any, .any, .any, .any, .any, .any, .any, .any, .any, .any, .any, .any, .any, .bool true, .any, .any, .any, .any, .any, .any, .any, .any, junkB g1017, junkB g1018, .any, .any, .any, .any, .any, .any, .any, .any, .any, .any, .any, .any, .any, .any, .any, .any, .any, .any, .any, .any, .any, .any, .any, .any, .any, .any, .any, .any, .any, .any, .any, .any, .any, .any, .any, .any, .any, .any, .any, .any, .any, .any] ∧ H = [.cells ((cL cAffidavitref24_State) y959 ++ (cL cHeld) p1019)] ∧ r24_Book_Prune_J20 (loopN (r24_Book_Prune_B1008 (loopN (r24_Book_Prune_B953 a0) d953) y958 y959) d1008) x1008 p1019 = some r) (fun fr H ⟨p1019, g1017, g1018, e1, e2, hF⟩ => ?_) (fun hJ20 => ?_)
    ·subst e1 e2
     refine xr ?_
     refine wh 3 ?_
     refine we ?_
     refine then_n ?_
     exact x_back (VS.sm 79228162514250826794636648348) ⟨(iAdd .i64 x1008.1 1, p1019), (some true), g1017, g1018, rfl, rfl, hF⟩
    refine xb ?_
    refine xq ?_
    refine wh 3 ?_
    refine bind_elim hF (fun y1020 hy1020 hF => uI cHeld 2 hy1020 len_cHeld ?_)
    refine wh 5 ?_
    refine uE cHeld 0 (t := 3) (v := .int .i64 y1020.Number) 2 1 hy1020 len_cHeld ?_
    refine bind_elim hF (fun y1021 hy1021 hF => uOs [0] [0] (v := .bool y1021) [.cells ((cL cAffidavitref24_State) y959 ++ (cL cHeld) x1008.2)] (r24_Book_Has_ev hy1021) (by kernel_rfl) (pl (b' := .cells ((cL cAffidavitref24_State) y959 ++ (cL cHeld) x1008.2)) (by kernel_rfl) (sb_cells (by kernel_rfl) (by kernel_rfl) (tights_app (tights_lows ((low_cL low_cAffidavitref24_State) _)) (tights_lows ((low_cL low_cHeld) _)))) pl_nil) rfl (sbs (sb_cells (by kernel_rfl) (by kernel_rfl) (tights_app (tights_lows ((low_cL low_cAffidavitref24_State) _)) (tights_lows ((low_cL low_cHeld) _)))) sbs_nil) ?_)
    refine wh 8 ?_
    refine we ?_
    refine ng ?_
    refine ite_elim hF (fun hc6 hF => ?_) (fun hc6 hF => ?_)
    ·refine kF 53 (show (!y1021) = false by rw [hc6]; rfl) ?_
     refine xF ?_
     refine xk ?_
     refine block_n ?_
     refine then_n ?_
     exact x_to hJ20 (VS.sm 79228162514264328797425737628) ⟨x1008.2, (some y1021), (some false), rfl, rfl, hF⟩
    refine kT 53 (show (!y1021) = true by rw [hc6]; rfl) ?_
    refine xT ?_
    refine x_rows 0 4095 [⟨12, [], [], [], []⟩] call_ends callMono (by kernel_rfl) (by kernel_rfl) ?_
    refine wp 7 ?_
    refine bind_elim hF (fun y1026 hy1026 hF => uI cHeld 2 hy1026 len_cHeld ?_)
    refine uE cHeld 0 (t := 41) (v := .agg (cHeld y1026)) 2 2 hy1026 len_cHeld ?_
    refine bind_elim hF (fun y1027 hy1027 hF => uC (r24_put_ev hy1027) (lows_cons (low_sl low_cHeld) (lows_cons (low_agg (low_cHeld _)) rfl)) (low_sl low_cHeld) ?_)
    refine wp 12 ?_
    refine we ?_
    refine rows_next ?_
    refine wr 1 [.cells ((cL cAffidavitref24_State) y959 ++ (cL cHeld) y1027)] ?_
    refine we ?_
    refine ⟨⟨(by kernel_rfl), trivial⟩, ?_⟩
    refine we ?_
    refine rows_done ?_
    refine de ?_
    refine block_n ?_
    refine then_n ?_
    exact x_to hJ20 (VS.sm 79228162514264328797425737628) ⟨y1027, (some y1021), (some true), rfl, rfl, hF⟩
   refine kF 43 hc5 ?_
   refine xF ?_
   refine xe ?_
   refine then_e ?_
   refine then_e ?_
   refine block_e ?_
   refine block_n ?_
   refine then_n ?_
   exact x_back (VS.sm 79228162514250826794661838844) ⟨(y959, x1008.2), (some (iGt (x953.1.l.length : Int) 1)), (some true), (some (iLe y957.N a0)), (some true), (some false), g981, g982, rfl, rfl, hF⟩
  refine kF 24 hc4 ?_
  refine xF ?_
  refine xe ?_
  refine then_e ?_
  refine then_e ?_
  refine block_e ?_
  refine then_n ?_
  exact x_to hJ10 (VS.sm 79228162514250817998552039422) ⟨x953.1, x953.2, (some (iGt (x953.1.l.length : Int) 1)), (some true), (some (iLe y957.N a0)), g865, g866, g867, rfl, rfl, hF⟩
 refine wF 14 hc3 ?_
 refine wh 17 ?_
 refine we ?_
 refine ng ?_
 refine xF ?_
 refine xe ?_
 refine then_e ?_
 refine then_e ?_
 refine block_e ?_
 refine then_n ?_
 exact x_to hJ10 (VS.sm 79228162514250817998552039422) ⟨x953.1, x953.2, (some (iGt (x953.1.l.length : Int) 1)), (some false), none, g865, g866, g867, rfl, rfl, hF⟩
def r01_Ints_J1  : Option Bool :=
  some true
def r01_Ints_B1083 (a0 : Sl Int) (a1 : Sl Int) (k1083 : Int → Option Bool) (x1083 : Int) : Option Bool :=
  if iLt x1083 (a0.l.length : Int) = true then (idxL a0.l x1083).bind fun y1090 => (idxL a1.l x1083).bind fun y1091 => if (y1090 != y1091) = true then some false else k1083 (iAdd .i64 x1083 1) else r01_Ints_J1
def r01_Ints (a0 : Sl Int) (a1 : Sl Int) : Option Bool :=
  if ((a0.l.length : Int) != (a1.l.length : Int)) = true then some false else loopN (r01_Ints_B1083 a0 a1) FUEL 0
theorem r01_Ints_ev {a0 : Sl Int} {a1 : Sl Int} {r : Bool} (hF : r01_Ints a0 a1 = some r) : EvCall Try.prog T G0 24 [sl (cI .i64) a0, sl (cI .i64) a1] [] (fun v H' => v = .bool r ∧ H' = []) := by
 refine xc Try.func24 ?_
 refine xq ?_
 refine wh 1 ?_
 refine we ?_
 refine ng ?_
 refine xs ?_
 refine xq ?_
 refine wh 5 ?_
 refine we ?_
 refine ng ?_
 refine ite_elim hF (fun hc1 hF => ?_) (fun hc1 hF => ?_)
 ·refine kT 10 hc1 ?_
  refine xT ?_
  refine xq ?_
  refine wh 1 ?_
  refine we ?_
  refine ng ?_
  refine xt ?_
  refine then_r ?_
  have e := Option.some.inj hF
  subst e
  exact fE [] (.inl rfl) rfl ⟨rfl, rfl⟩
 refine kF 10 hc1 ?_
 refine xF ?_
 refine xk ?_
 refine ng ?_
 refine xj (fun fr H => ∃ (g1060 : Option Bool), fr = [.any, .any, .any, .any, .bool false, .any, .any, .any, .any, .any, .bool false, .any, .any, .any, .bool false, .any, .any, .any, .any, .any, .any, .any, .any, .any, .any, junkB g1060] ∧ H = [] ∧ r01_Ints_J1 = some r) (fun fr H ⟨g1060, e1, e2, hF⟩ => ?_) (fun hJ1 => ?_)
 ·subst e1 e2
  refine xq ?_
  refine wh 1 ?_
  refine we ?_
  refine ng ?_
  refine xt ?_
  have e := Option.some.inj hF
  subst e
  exact fE [] (.inl rfl) rfl ⟨rfl, rfl⟩
 refine xq ?_
 refine wh 1 ?_
 refine we ?_
 refine ng ?_
 refine xb ?_
 refine x_loop (fun d fr H => ∃ (x1083 : Int) (g1070 : Option Bool) (g1071 : Option Bool), fr = [sl (cI .i64) a0, sl (cI .i64) a1, .any, .any, .bool false, .int .i64 x1083, .any, .any, .any, .any, .bool false, .any, .any, .any, junkB g1070, .any, .any, .any, .any, .any, .any, .any, .any, .any, .any, junkB g1071] ∧ H = [] ∧ loopN (r01_Ints_B1083 a0 a1) d x1083 = some r) (by kernel_rfl) (fun fr H ⟨x1083, g1070, g1071, e1, e2, hF⟩ => loop_no hF) (fun d1083 fr H ⟨x1083, g1070, g1071, e1, e2, hF⟩ => ?_) (VS.sm 67107788) ⟨0, none, none, rfl, rfl, hF⟩
 subst e1 e2
 have hF := loop_in hF
 refine xs ?_
 refine xq ?_
 refine wh 4 ?_
 refine we ?_
 refine ng ?_
 refine ite_elim hF (fun hc2 hF => ?_) (fun hc2 hF => ?_)
 ·refine kT 14 hc2 ?_
  refine xT ?_
  refine xk ?_
  refine ng ?_
  refine xs ?_
  refine xb ?_
  refine xs ?_
  refine xd 0 call_ends callMono ?_
  refine wp 2 ?_
  refine bind_elim hF (fun y1090 hy1090 hF => uI (cI .i64) 1 hy1090 (fun _ => rfl) ?_)
  refine uE (cI .i64) 0 (t := 3) (v := .int .i64 y1090) 1 1 hy1090 (fun _ => rfl) ?_
  refine wp 6 ?_
  refine bind_elim hF (fun y1091 hy1091 hF => uI (cI .i64) 1 hy1091 (fun _ => rfl) ?_)
  refine uE (cI .i64) 0 (t := 3) (v := .int .i64 y1091) 1 1 hy1091 (fun _ => rfl) ?_
  refine wp 9 ?_
  refine we ?_
  refine de ?_
  refine ng ?_
  refine ite_elim hF (fun hc3 hF => ?_) (fun hc3 hF => ?_)
  ·refine kT 25 hc3 ?_
   refine xT ?_
   refine xq ?_
   refine wh 1 ?_
   refine we ?_
   refine ng ?_
   refine xt ?_
   refine block_r ?_
   refine then_r ?_
   refine then_r ?_
   refine block_r ?_
   refine then_r ?_
   have e := Option.some.inj hF
   subst e
   exact fE [] (.inl rfl) rfl ⟨rfl, rfl⟩
  refine kF 25 hc3 ?_
  refine xF ?_
  refine xk ?_
  refine block_n ?_
  refine ng ?_
  refine xr ?_
  refine wh 3 ?_
  refine we ?_
  refine then_n ?_
  exact x_back (VS.sm 67107788) ⟨iAdd .i64 x1083 1, (some true), (some false), rfl, rfl, hF⟩
 refine kF 14 hc2 ?_
 refine xF ?_
 refine xe ?_
 refine then_e ?_
 refine then_e ?_
 refine block_e ?_
 refine then_n ?_
 exact x_to hJ1 (VS.sm 33537007) ⟨g1071, rfl, rfl, hF⟩
def prune_plain_J4  : Option Bool :=
  some true
def prune_plain_J7 (k1299 : Int → Option Bool) (x1299 : Int) : Option Bool :=
  k1299 (iAdd .i64 x1299 1)
def prune_plain_B1299 (a0 : Sl Held) (k1299 : Int → Option Bool) (x1299 : Int) : Option Bool :=
  if iLt x1299 (a0.l.length : Int) = true then (idxL a0.l x1299).bind fun y1315 => if iLt y1315.Number 0 = true then some false else if iGt y1315.Number 1099511627776 = true then some false else if iLt y1315.Size 0 = true then some false else if iGt y1315.Size 4096 = true then some false else if iGt x1299 0 = true then (idxL a0.l (iSub .i64 x1299 1)).bind fun y1319 => if iLe y1315.Number y1319.Number = true then some false else prune_plain_J7 k1299 x1299 else prune_plain_J7 k1299 x1299 else prune_plain_J4
def prune_plain (a0 : Sl Held) : Option Bool :=
  loopN (prune_plain_B1299 a0) FUEL 0
theorem prune_plain_ev {a0 : Sl Held} {r : Bool} (hF : prune_plain a0 = some r) : EvCall Try.prog T G0 33 [sl cHeld a0] [] (fun v H' => v = .bool r ∧ H' = []) := by
 refine xc Try.func33 ?_
 refine xq ?_
 refine wh 1 ?_
 refine we ?_
 refine ng ?_
 refine xj (fun fr H => ∃ (g1207 : Option Bool) (g1208 : Option Bool) (g1209 : Option Bool) (g1210 : Option Bool) (g1211 : Option Bool) (g1212 : Option Bool) (g1213 : Option Bool) (g1214 : Option Bool) (g1215 : Option Bool) (g1216 : Option Bool) (g1217 : Option Bool) (g1218 : Option Bool) (g1219 : Option Bool) (g1220 : Option Bool) (g1221 : Option Bool) (g1222 : Option Bool), fr = [.any, .any, .bool false, .any, .any, .any, .any, .any, .bool false, .any, .any, .any, .any, .any, junkB g1207, junkB g1208, .any, .any, junkB g1209, junkB g1210, junkB g1211, .any, .any, junkB g1212, junkB g1213, junkB g1214, .any, .any, junkB g1215, junkB g1216, junkB g1217, .any, junkB g1218, junkB g1219, .any, .any, .any, .any, .any, .any, .any, .any, junkB g1220, junkB g1221, junkB g1222, .any] ∧ H = [] ∧ prune_plain_J4 = some r) (fun fr H ⟨g1207, g1208, g1209, g1210, g1211, g1212, g1213, g1214, g1215, g1216, g1217, g1218, g1219, g1220, g1221, g1222, e1, e2, hF⟩ => ?_) (fun hJ4 => ?_)
 ·subst e1 e2
  refine xq ?_
  refine wh 1 ?_
  refine we ?_
  refine ng ?_
  refine xt ?_
  have e := Option.some.inj hF
  subst e
  exact fE [] (.inl rfl) rfl ⟨rfl, rfl⟩
 refine xq ?_
 refine wh 3 ?_
 refine we ?_
 refine ng ?_
 refine xb ?_
 refine x_loop (fun d fr H => ∃ (x1299 : Int) (g1244 : Option Bool) (g1245 : Option Bool) (g1246 : Option Bool) (g1247 : Option Bool) (g1248 : Option Bool) (g1249 : Option Bool) (g1250 : Option Bool) (g1251 : Option Bool) (g1252 : Option Bool) (g1253 : Option Bool) (g1254 : Option Bool) (g1255 : Option Bool) (g1256 : Option Bool) (g1257 : Option Bool) (g1258 : Option Bool) (g1259 : Option Bool) (g1260 : Option Bool), fr = [sl cHeld a0, .any, .bool false, .any, .any, sl cHeld a0, .int .i64 (a0.l.length : Int), .int .i64 x1299, junkB g1244, .any, .any, .any, .any, .any, junkB g1245, junkB g1246, .any, .any, junkB g1247, junkB g1248, junkB g1249, .any, .any, junkB g1250, junkB g1251, junkB g1252, .any, .any, junkB g1253, junkB g1254, junkB g1255, .any, junkB g1256, junkB g1257, .any, .any, .any, .any, .any, .any, .any, .any, junkB g1258, junkB g1259, junkB g1260, .any] ∧ H = [] ∧ loopN (prune_plain_B1299 a0) d x1299 = some r) (by kernel_rfl) (fun fr H ⟨x1299, g1244, g1245, g1246, g1247, g1248, g1249, g1250, g1251, g1252, g1253, g1254, g1255, g1256, g1257, g1258, g1259, g1260, e1, e2, hF⟩ => loop_no hF) (fun d1299 fr H ⟨x1299, g1244, g1245, g1246, g1247, g1248, g1249, g1250, g1251, g1252, g1253, g1254, g1255, g1256, g1257, g1258, g1259, g1260, e1, e2, hF⟩ => ?_) (VS.sm 70368744177434) ⟨0, none, none, none, none, none, none, none, none, none, none, none, none, none, none, none, none, none, rfl, rfl, hF⟩
 subst e1 e2
 have hF := loop_in hF
 refine xq ?_
 refine wh 1 ?_
 refine we ?_
 refine ng ?_
 refine xs ?_
 refine ite_elim hF (fun hc1 hF => ?_) (fun hc1 hF => ?_)
 ·refine kT 8 hc1 ?_
  refine xT ?_
  refine xk ?_
  refine ng ?_
  refine xj (fun fr H => ∃ (g1305 : Option Bool) (g1306 : Option Bool) (g1307 : Option Bool) (g1308 : Option Bool) (g1309 : Option Bool) (g1310 : Option Bool) (g1311 : Option Bool) (g1312 : Option Bool) (g1313 : Option Bool) (g1314 : Option Bool), fr = [sl cHeld a0, .any, .bool false, .any, .any, sl cHeld a0, .int .i64 (a0.l.length : Int), .int .i64 x1299, .bool true, .any, .any, .any, .any, .any, junkB g1305, .bool false, .any, .any, junkB g1306, junkB g1307, .bool false, .any, .any, junkB g1308, junkB g1309, .bool false, .any, .any, junkB g1310, junkB g1311, .bool false, .any, .bool (iGt x1299 0), junkB g1312, .any, .any, .any, .any, .any, .any, .any, .any, junkB g1313, junkB g1314, .bool false, .any] ∧ H = [] ∧ prune_plain_J7 (loopN (prune_plain_B1299 a0) d1299) x1299 = some r) (fun fr H ⟨g1305, g1306, g1307, g1308, g1309, g1310, g1311, g1312, g1313, g1314, e1, e2, hF⟩ => ?_) (fun hJ7 => ?_)
  ·subst e1 e2
   refine xr ?_
   refine wh 2 ?_
   refine we ?_
   refine then_n ?_
   exact x_back (VS.sm 57165183434522) ⟨iAdd .i64 x1299 1, (some true), g1305, (some false), g1306, g1307, (some false), g1308, g1309, (some false), g1310, g1311, (some false), (some (iGt x1299 0)), g1312, g1313, g1314, (some false), rfl, rfl, hF⟩
  refine xb ?_
  refine xq ?_
  refine wh 1 ?_
  refine bind_elim hF (fun y1315 hy1315 hF => uI cHeld 2 hy1315 len_cHeld ?_)
  refine uE cHeld 0 (t := 41) (v := .agg (cHeld y1315)) 2 2 hy1315 len_cHeld ?_
  refine wr 6 [.cells (cHeld y1315)] ?_
  refine we ?_
  refine ng ?_
  refine xs ?_
  refine xd 0 call_ends callMono ?_
  refine wp 4 ?_
  refine ite_elim hF (fun hc2 hF => ?_) (fun hc2 hF => ?_)
  ·refine wT 15 hc2 ?_
   refine wp 33 ?_
   refine we ?_
   refine de ?_
   refine ng ?_
   refine xT ?_
   refine xq ?_
   refine wh 1 ?_
   refine we ?_
   refine ng ?_
   refine xt ?_
   refine block_r ?_
   refine then_r ?_
   refine then_r ?_
   refine block_r ?_
   refine then_r ?_
   have e := Option.some.inj hF
   subst e
   exact fE [] (.inl rfl) rfl ⟨rfl, rfl⟩
  refine wF 15 hc2 ?_
  refine wp 9 ?_
  refine ite_elim hF (fun hc3 hF => ?_) (fun hc3 hF => ?_)
  ·refine wT 20 hc3 ?_
   refine wp 33 ?_
   refine we ?_
   refine de ?_
   refine ng ?_
   refine xT ?_
   refine xq ?_
   refine wh 1 ?_
   refine we ?_
   refine ng ?_
   refine xt ?_
   refine block_r ?_
   refine then_r ?_
   refine then_r ?_
   refine block_r ?_
   refine then_r ?_
   have e := Option.some.inj hF
   subst e
   exact fE [] (.inl rfl) rfl ⟨rfl, rfl⟩
  refine wF 20 hc3 ?_
  refine wp 14 ?_
  refine ite_elim hF (fun hc4 hF => ?_) (fun hc4 hF => ?_)
  ·refine wT 25 hc4 ?_
   refine wp 33 ?_
   refine we ?_
   refine de ?_
   refine ng ?_
   refine xT ?_
   refine xq ?_
   refine wh 1 ?_
   refine we ?_
   refine ng ?_
   refine xt ?_
   refine block_r ?_
   refine then_r ?_
   refine then_r ?_
   refine block_r ?_
   refine then_r ?_
   have e := Option.some.inj hF
   subst e
   exact fE [] (.inl rfl) rfl ⟨rfl, rfl⟩
  refine wF 25 hc4 ?_
  refine wp 19 ?_
  refine ite_elim hF (fun hc5 hF => ?_) (fun hc5 hF => ?_)
  ·refine wT 30 hc5 ?_
   refine wp 33 ?_
   refine we ?_
   refine de ?_
   refine ng ?_
   refine xT ?_
   refine xq ?_
   refine wh 1 ?_
   refine we ?_
   refine ng ?_
   refine xt ?_
   refine block_r ?_
   refine then_r ?_
   refine then_r ?_
   refine block_r ?_
   refine then_r ?_
   have e := Option.some.inj hF
   subst e
   exact fE [] (.inl rfl) rfl ⟨rfl, rfl⟩
  refine wF 30 hc5 ?_
  refine wp 22 ?_
  refine ite_elim hF (fun hc6 hF => ?_) (fun hc6 hF => ?_)
  ·refine wT 33 hc6 ?_
   refine wp 27 ?_
   refine bind_elim hF (fun y1319 hy1319 hF => uI cHeld 2 hy1319 len_cHeld ?_)
   refine wp 29 ?_
   refine uE cHeld 0 (t := 3) (v := .int .i64 y1319.Number) 2 1 hy1319 len_cHeld ?_
   refine wp 33 ?_
   refine we ?_
   refine de ?_
   refine ng ?_
   refine ite_elim hF (fun hc7 hF => ?_) (fun hc7 hF => ?_)
   ·refine kT 44 hc7 ?_
    refine xT ?_
    refine xq ?_
    refine wh 1 ?_
    refine we ?_
    refine ng ?_
    refine xt ?_
    refine block_r ?_
    refine then_r ?_
    refine then_r ?_
    refine block_r ?_
    refine then_r ?_
    have e := Option.some.inj hF
    subst e
    exact fE [] (.inl rfl) rfl ⟨rfl, rfl⟩
   refine kF 44 hc7 ?_
   refine xF ?_
   refine xk ?_
   refine block_n ?_
   refine then_n ?_
   exact x_to hJ7 (VS.si [] 52771154787866 (tights_at [0, 5] (by kernel_rfl) (by exact ⟨(tight_sl low_cHeld), (tight_sl low_cHeld), trivial⟩)) shh_nil) ⟨(some (iLt y1315.Number 0)), (some (iGt y1315.Number 1099511627776)), (some (iGt y1315.Number 1099511627776)), (some (iLt y1315.Size 0)), (some (iLt y1315.Size 0)), (some (iGt y1315.Size 4096)), (some (iGt y1315.Size 4096)), (some true), (some (iLe y1315.Number y1319.Number)), (some (iLe y1315.Number y1319.Number)), rfl, rfl, hF⟩
  refine wF 33 hc6 ?_
  refine wp 33 ?_
  refine we ?_
  refine de ?_
  refine ng ?_
  refine xF ?_
  refine xk ?_
  refine block_n ?_
  refine then_n ?_
  exact x_to hJ7 (VS.si [] 52771154787866 (tights_at [0, 5] (by kernel_rfl) (by exact ⟨(tight_sl low_cHeld), (tight_sl low_cHeld), trivial⟩)) shh_nil) ⟨(some (iLt y1315.Number 0)), (some (iGt y1315.Number 1099511627776)), (some (iGt y1315.Number 1099511627776)), (some (iLt y1315.Size 0)), (some (iLt y1315.Size 0)), (some (iGt y1315.Size 4096)), (some (iGt y1315.Size 4096)), (some false), none, (some false), rfl, rfl, hF⟩
 refine kF 8 hc1 ?_
 refine xF ?_
 refine xe ?_
 refine then_e ?_
 refine then_e ?_
 refine block_e ?_
 refine then_n ?_
 exact x_to hJ4 (VS.sm 39567594045179) ⟨g1245, g1246, g1247, g1248, g1249, g1250, g1251, g1252, g1253, g1254, g1255, g1256, g1257, g1258, g1259, g1260, rfl, rfl, hF⟩
def prune_Book_fits_J5  : Option Bool :=
  some true
def prune_Book_fits_J8 (k1415 : Int → Option Bool) (x1415 : Int) : Option Bool :=
  k1415 (iAdd .i64 x1415 1)
def prune_Book_fits_B1415 (a0 : Sl Held) (y1321 : (Mp Int Int)) (p1335 : Mp Int Int) (k1415 : Int → Option Bool) (x1415 : Int) : Option Bool :=
  if iLt x1415 (a0.l.length : Int) = true then (idxL a0.l x1415).bind fun y1422 => if iGt ((Mp.get y1321 y1422.Number).getD 0) 0 = true then if ((Mp.get y1321 y1422.Number).getD 0 != iAdd .i64 y1422.Size 1) = true then some false else if iGt ((Mp.get p1335 y1422.Number).getD 0) 0 = true then some false else prune_Book_fits_J8 k1415 x1415 else if iGt ((Mp.get p1335 y1422.Number).getD 0) 0 = true then some false else prune_Book_fits_J8 k1415 x1415 else prune_Book_fits_J5
def prune_Book_fits_J1 (a0 : Sl Held) (y1321 : (Mp Int Int)) (p1335 : Mp Int Int) : Option Bool :=
  loopN (prune_Book_fits_B1415 a0 y1321 p1335) FUEL 0
def prune_Book_fits_B1433 (a0 : Sl Held) (a2 : Sl Held) (y1321 : (Mp Int Int)) (k1433 : ((Mp Int Int) × Int) → Option Bool) (x1433 : (Mp Int Int) × Int) : Option Bool :=
  if iLt x1433.2 (a2.l.length : Int) = true then (idxL a2.l x1433.2).bind fun y1435 => k1433 (Mp.put x1433.1 y1435.Number 1, iAdd .i64 x1433.2 1) else prune_Book_fits_J1 a0 y1321 x1433.1
def prune_Book_fits (a0 : Sl Held) (a1 : Sl Prune_state) (a2 : Sl Held) : Option Bool :=
  (prune_Book_sizes a1 a2).bind fun y1321 => loopN (prune_Book_fits_B1433 a0 a2 y1321) FUEL (Mp.none, 0)
theorem prune_Book_fits_ev {a0 : Sl Held} {a1 : Sl Prune_state} {a2 : Sl Held} {r : Bool} (hF : prune_Book_fits a0 a1 a2 = some r) : EvCall Try.prog T G0 34 [.ptr 0 0, sl cHeld a0] [.cells ((cL cPrune_state) a1 ++ [rfv false a2 1 2]), rfb cHeld a2] (fun v H' => v = .bool r ∧ H' = [.cells ((cL cPrune_state) a1 ++ [rfv false a2 1 2]), rfb cHeld a2]) := by
 refine xc Try.func34 ?_
 refine xq ?_
 refine wh 1 ?_
 refine we ?_
 refine ng ?_
 refine xq ?_
 refine wh 1 ?_
 refine bind_elim hF (fun y1321 hy1321 hF => uO [0, 1] [0, 1, 2] (v := .map 2) [.cells ((cL cPrune_state) a1 ++ [rfv false a2 1 2]), rfb cHeld a2, mpb (AV.int .i64) (AV.int .i64) y1321] [.cells ((cL cPrune_state) a1 ++ [rfv false a2 1 2]), rfb cHeld a2, mpb (AV.int .i64) (AV.int .i64) y1321] (prune_Book_sizes_ev hy1321) (by kernel_rfl) (pl (b' := .cells ((cL cPrune_state) a1 ++ [rfv false a2 1 2])) (by kernel_rfl) (sb_cells (by kernel_rfl) (by kernel_rfl) (tights_app (tights_lows ((low_cL low_cPrune_state) _)) (tights_cons rfl rfl))) (pl (b' := rfb cHeld a2) (by kernel_rfl) (sb_low (noref_rfb low_cHeld _)) pl_nil)) rfl (sbs (sb_cells (by kernel_rfl) (by kernel_rfl) (tights_app (tights_lows ((low_cL low_cPrune_state) _)) (tights_cons rfl rfl))) (sbs (sb_low (noref_rfb low_cHeld _)) (sbs (sb_low (noref_mpb (fun _ => rfl) (fun _ => rfl) _)) sbs_nil))) ?_)
 refine wh 3 ?_
 refine we ?_
 refine ng ?_
 refine xq ?_
 refine wr 2 [.cells ((cL cPrune_state) a1 ++ [rfv false a2 1 2]), rfb cHeld a2, mpb (AV.int .i64) (AV.int .i64) y1321, mpb (AV.int .i64) (AV.int .i64) Mp.none] ?_
 refine we ?_
 refine ng ?_
 refine xj (fun fr H => ∃ (p1335 : Mp Int Int), fr = [.any, sl cHeld a0, .any, .any, .bool false, .map 2, .map 3, .any, .any, .any, .any, .any, .any, .any, .any, .any, .any, .any, .any, .any, .any, .bool false, .any, .any, .any, .any, .any, .any, .any, .any, .any, .any, .any, .any, .any, .any, .any, .any, .any, .any, .any, .any, .any, .any, .any, .any, .any, .any, .any, .any, .any, .any, .any, .any, .any] ∧ H = [.cells ((cL cPrune_state) a1 ++ [rfv false a2 1 2]), rfb cHeld a2, mpb (AV.int .i64) (AV.int .i64) y1321, mpb (AV.int .i64) (AV.int .i64) p1335] ∧ prune_Book_fits_J1 a0 y1321 p1335 = some r) (fun fr H ⟨p1335, e1, e2, hF⟩ => ?_) (fun hJ1 => ?_)
 ·subst e1 e2
  refine xj (fun fr H => ∃ (g1376 : Option Bool) (g1377 : Option Bool) (g1378 : Option Bool) (g1379 : Option Bool) (g1380 : Option Bool) (g1381 : Option Bool) (g1382 : Option Bool), fr = [.any, .any, .any, .any, .bool false, .any, .any, .any, .any, .any, .any, .any, .any, .any, .any, .any, .any, .any, .any, .any, .any, .bool false, .any, .any, .any, .any, .any, .any, .any, .any, .any, .bool false, .any, .any, .any, .any, .any, .any, .any, junkB g1376, junkB g1377, .any, .any, .any, .any, junkB g1378, junkB g1379, junkB g1380, .any, .any, .any, .any, junkB g1381, junkB g1382, .any] ∧ H = [.cells ((cL cPrune_state) a1 ++ [rfv false a2 1 2]), rfb cHeld a2] ∧ prune_Book_fits_J5 = some r) (fun fr H ⟨g1376, g1377, g1378, g1379, g1380, g1381, g1382, e1, e2, hF⟩ => ?_) (fun hJ5 => ?_)
  ·subst e1 e2
   refine xq ?_
   refine wh 1 ?_
   refine we ?_
   refine ng ?_
   refine xt ?_
   have e := Option.some.inj hF
   subst e
   exact fS [0, 1] (.inl rfl) rfl (shh (b0 := .cells ((cL cPrune_state) a1 ++ [rfv false a2 1 2])) (by kernel_rfl) (shb_cells (by kernel_rfl) (by kernel_rfl) (tights_app (tights_lows ((low_cL low_cPrune_state) _)) (tights_cons rfl rfl))) (shh (b0 := rfb cHeld a2) (by kernel_rfl) (NoRef.shb (noref_rfb low_cHeld _)) shh_nil)) ⟨rfl, rfl⟩
  refine xq ?_
  refine wh 3 ?_
  refine we ?_
  refine ng ?_
  refine xb ?_
  refine x_loop (fun d fr H => ∃ (x1415 : Int) (g1391 : Option Bool) (g1392 : Option Bool) (g1393 : Option Bool) (g1394 : Option Bool) (g1395 : Option Bool) (g1396 : Option Bool) (g1397 : Option Bool) (g1398 : Option Bool), fr = [.any, .any, .any, .any, .bool false, .map 2, .map 3, .any, .any, .any, .any, .any, .any, .any, .any, .any, .any, .any, .any, .any, .any, .bool false, .any, .any, .any, .any, .any, .any, sl cHeld a0, .int .i64 (a0.l.length : Int), .int .i64 x1415, junkB g1391, .any, .any, .any, .any, .any, .any, .any, junkB g1392, junkB g1393, .any, .any, .any, .any, junkB g1394, junkB g1395, junkB g1396, .any, .any, .any, .any, junkB g1397, junkB g1398, .any] ∧ H = [.cells ((cL cPrune_state) a1 ++ [rfv false a2 1 2]), rfb cHeld a2, mpb (AV.int .i64) (AV.int .i64) y1321, mpb (AV.int .i64) (AV.int .i64) p1335] ∧ loopN (prune_Book_fits_B1415 a0 y1321 p1335) d x1415 = some r) (by kernel_rfl) (fun fr H ⟨x1415, g1391, g1392, g1393, g1394, g1395, g1396, g1397, g1398, e1, e2, hF⟩ => loop_no hF) (fun d1415 fr H ⟨x1415, g1391, g1392, g1393, g1394, g1395, g1396, g1397, g1398, e1, e2, hF⟩ => ?_) (VS.sm 36028795137818511) ⟨0, none, none, none, none, none, none, none, none, rfl, rfl, hF⟩
  subst e1 e2
  have hF := loop_in hF
  refine xq ?_
  refine wh 1 ?_
  refine we ?_
  refine ng ?_
  refine xs ?_
  refine ite_elim hF (fun hc1 hF => ?_) (fun hc1 hF => ?_)
  ·refine kT 31 hc1 ?_
   refine xT ?_
   refine xk ?_
   refine ng ?_
   refine xj (fun fr H => ∃ (g1417 : Option Bool) (g1418 : Option Bool) (g1419 : Option Bool) (g1420 : Option Bool) (g1421 : Option Bool), fr = [.any, .any, .any, .any, .bool false, .map 2, .map 3, .any, .any, .any, .any, .any, .any, .any, .any, .any, .any, .any, .any, .any, .any, .bool false, .any, .any, .any, .any, .any, .any, sl cHeld a0, .int .i64 (a0.l.length : Int), .int .i64 x1415, .bool true, .any, .any, .any, .any, .any, .any, .any, junkB g1417, junkB g1418, .any, .any, .any, .any, junkB g1419, junkB g1420, .bool false, .any, .any, .any, .any, junkB g1421, .bool false, .any] ∧ H = [.cells ((cL cPrune_state) a1 ++ [rfv false a2 1 2]), rfb cHeld a2, mpb (AV.int .i64) (AV.int .i64) y1321, mpb (AV.int .i64) (AV.int .i64) p1335] ∧ prune_Book_fits_J8 (loopN (prune_Book_fits_B1415 a0 y1321 p1335) d1415) x1415 = some r) (fun fr H ⟨g1417, g1418, g1419, g1420, g1421, e1, e2, hF⟩ => ?_) (fun hJ8 => ?_)
   ·subst e1 e2
    refine xr ?_
    refine wh 2 ?_
    refine we ?_
    refine then_n ?_
    exact x_back (VS.sm 31417993126739855) ⟨iAdd .i64 x1415 1, (some true), g1417, g1418, g1419, g1420, (some false), g1421, (some false), rfl, rfl, hF⟩
   refine xb ?_
   refine xq ?_
   refine bind_elim hF (fun y1422 hy1422 hF => uI cHeld 2 hy1422 len_cHeld ?_)
   refine uE cHeld 0 (t := 41) (v := .agg (cHeld y1422)) 2 2 hy1422 len_cHeld ?_
   refine wr 4 [.cells ((cL cPrune_state) a1 ++ [rfv false a2 1 2]), rfb cHeld a2, mpb (AV.int .i64) (AV.int .i64) y1321, mpb (AV.int .i64) (AV.int .i64) p1335, .cells (cHeld y1422)] ?_
   refine we ?_
   refine ng ?_
   refine xq ?_
   refine wh 3 ?_
   refine w_mget (AV.int .i64) (AV.int .i64) (t := 64) (l := 2) (a := y1422.Number) (ok := false) (kt := 3) (et := 3) (z := 0) y1321 (by kernel_rfl) (by kernel_rfl) (key_int (by kernel_rfl)) (by kernel_rfl) (by kernel_rfl) ?_
   refine wh 5 ?_
   refine we ?_
   refine ng ?_
   refine xq ?_
   refine wh 3 ?_
   refine ite_elim hF (fun hc2 hF => ?_) (fun hc2 hF => ?_)
   ·refine wT 40 hc2 ?_
    refine wh 10 ?_
    refine ite_elim hF (fun hc3 hF => ?_) (fun hc3 hF => ?_)
    ·refine wT 47 hc3 ?_
     refine wh 16 ?_
     refine we ?_
     refine ng ?_
     refine xT ?_
     refine xq ?_
     refine wh 1 ?_
     refine we ?_
     refine ng ?_
     refine xt ?_
     refine block_r ?_
     refine then_r ?_
     refine then_r ?_
     refine block_r ?_
     refine then_r ?_
     have e := Option.some.inj hF
     subst e
     exact fS [0, 1] (.inl rfl) rfl (shh (b0 := .cells ((cL cPrune_state) a1 ++ [rfv false a2 1 2])) (by kernel_rfl) (shb_cells (by kernel_rfl) (by kernel_rfl) (tights_app (tights_lows ((low_cL low_cPrune_state) _)) (tights_cons rfl rfl))) (shh (b0 := rfb cHeld a2) (by kernel_rfl) (NoRef.shb (noref_rfb low_cHeld _)) shh_nil)) ⟨rfl, rfl⟩
    refine wF 47 hc3 ?_
    refine wh 13 ?_
    refine w_mget (AV.int .i64) (AV.int .i64) (t := 64) (l := 3) (a := y1422.Number) (ok := false) (kt := 3) (et := 3) (z := 0) p1335 (by kernel_rfl) (by kernel_rfl) (key_int (by kernel_rfl)) (by kernel_rfl) (by kernel_rfl) ?_
    refine wh 16 ?_
    refine we ?_
    refine ng ?_
    refine ite_elim hF (fun hc4 hF => ?_) (fun hc4 hF => ?_)
    ·refine kT 53 hc4 ?_
     refine xT ?_
     refine xq ?_
     refine wh 1 ?_
     refine we ?_
     refine ng ?_
     refine xt ?_
     refine block_r ?_
     refine then_r ?_
     refine then_r ?_
     refine block_r ?_
     refine then_r ?_
     have e := Option.some.inj hF
     subst e
     exact fS [0, 1] (.inl rfl) rfl (shh (b0 := .cells ((cL cPrune_state) a1 ++ [rfv false a2 1 2])) (by kernel_rfl) (shb_cells (by kernel_rfl) (by kernel_rfl) (tights_app (tights_lows ((low_cL low_cPrune_state) _)) (tights_cons rfl rfl))) (shh (b0 := rfb cHeld a2) (by kernel_rfl) (NoRef.shb (noref_rfb low_cHeld _)) shh_nil)) ⟨rfl, rfl⟩
    refine kF 53 hc4 ?_
    refine xF ?_
    refine xk ?_
    refine block_n ?_
    refine then_n ?_
    exact x_to hJ8 (VS.si [0, 1, 2, 3] 26880856247238543 (tights_at [28] (by kernel_rfl) (by exact ⟨(tight_sl low_cHeld), trivial⟩)) (shh (b0 := .cells ((cL cPrune_state) a1 ++ [rfv false a2 1 2])) (by kernel_rfl) (shb_cells (by kernel_rfl) (by kernel_rfl) (tights_app (tights_lows ((low_cL low_cPrune_state) _)) (tights_cons rfl rfl))) (shh (b0 := rfb cHeld a2) (by kernel_rfl) (NoRef.shb (noref_rfb low_cHeld _)) (shh (b0 := mpb (AV.int .i64) (AV.int .i64) y1321) (by kernel_rfl) (NoRef.shb (noref_mpb (fun _ => rfl) (fun _ => rfl) _)) (shh (b0 := mpb (AV.int .i64) (AV.int .i64) p1335) (by kernel_rfl) (NoRef.shb (noref_mpb (fun _ => rfl) (fun _ => rfl) _)) shh_nil))))) ⟨(some (iGt ((Mp.get y1321 y1422.Number).getD 0) 0)), (some true), (some ((Mp.get y1321 y1422.Number).getD 0 != iAdd .i64 y1422.Size 1)), (some ((Mp.get y1321 y1422.Number).getD 0 != iAdd .i64 y1422.Size 1)), (some (iGt ((Mp.get p1335 y1422.Number).getD 0) 0)), rfl, rfl, hF⟩
   refine wF 40 hc2 ?_
   refine wh 13 ?_
   refine w_mget (AV.int .i64) (AV.int .i64) (t := 64) (l := 3) (a := y1422.Number) (ok := false) (kt := 3) (et := 3) (z := 0) p1335 (by kernel_rfl) (by kernel_rfl) (key_int (by kernel_rfl)) (by kernel_rfl) (by kernel_rfl) ?_
   refine wh 16 ?_
   refine we ?_
   refine ng ?_
   refine ite_elim hF (fun hc5 hF => ?_) (fun hc5 hF => ?_)
   ·refine kT 53 hc5 ?_
    refine xT ?_
    refine xq ?_
    refine wh 1 ?_
    refine we ?_
    refine ng ?_
    refine xt ?_
    refine block_r ?_
    refine then_r ?_
    refine then_r ?_
    refine block_r ?_
    refine then_r ?_
    have e := Option.some.inj hF
    subst e
    exact fS [0, 1] (.inl rfl) rfl (shh (b0 := .cells ((cL cPrune_state) a1 ++ [rfv false a2 1 2])) (by kernel_rfl) (shb_cells (by kernel_rfl) (by kernel_rfl) (tights_app (tights_lows ((low_cL low_cPrune_state) _)) (tights_cons rfl rfl))) (shh (b0 := rfb cHeld a2) (by kernel_rfl) (NoRef.shb (noref_rfb low_cHeld _)) shh_nil)) ⟨rfl, rfl⟩
   refine kF 53 hc5 ?_
   refine xF ?_
   refine xk ?_
   refine block_n ?_
   refine then_n ?_
   exact x_to hJ8 (VS.si [0, 1, 2, 3] 26880856247238543 (tights_at [28] (by kernel_rfl) (by exact ⟨(tight_sl low_cHeld), trivial⟩)) (shh (b0 := .cells ((cL cPrune_state) a1 ++ [rfv false a2 1 2])) (by kernel_rfl) (shb_cells (by kernel_rfl) (by kernel_rfl) (tights_app (tights_lows ((low_cL low_cPrune_state) _)) (tights_cons rfl rfl))) (shh (b0 := rfb cHeld a2) (by kernel_rfl) (NoRef.shb (noref_rfb low_cHeld _)) (shh (b0 := mpb (AV.int .i64) (AV.int .i64) y1321) (by kernel_rfl) (NoRef.shb (noref_mpb (fun _ => rfl) (fun _ => rfl) _)) (shh (b0 := mpb (AV.int .i64) (AV.int .i64) p1335) (by kernel_rfl) (NoRef.shb (noref_mpb (fun _ => rfl) (fun _ => rfl) _)) shh_nil))))) ⟨(some (iGt ((Mp.get y1321 y1422.Number).getD 0) 0)), (some false), none, (some false), (some (iGt ((Mp.get p1335 y1422.Number).getD 0) 0)), rfl, rfl, hF⟩
  refine kF 31 hc1 ?_
  refine xF ?_
  refine xe ?_
  refine then_e ?_
  refine then_e ?_
  refine block_e ?_
  refine then_n ?_
  exact x_to hJ5 (VS.shX [0, 1] 22270056115208175 [39, 40, 45, 46, 47, 52, 53] (by kernel_rfl) (by kernel_rfl) (by kernel_rfl) (by exact ⟨low_junk g1392, low_junk g1393, low_junk g1394, low_junk g1395, low_junk g1396, low_junk g1397, low_junk g1398, trivial⟩) (tights_at [39, 40, 45, 46, 47, 52, 53] (by kernel_rfl) (by exact ⟨(tight_junk g1392), (tight_junk g1393), (tight_junk g1394), (tight_junk g1395), (tight_junk g1396), (tight_junk g1397), (tight_junk g1398), trivial⟩)) (shh (b0 := .cells ((cL cPrune_state) a1 ++ [rfv false a2 1 2])) (by kernel_rfl) (shb_cells (by kernel_rfl) (by kernel_rfl) (tights_app (tights_lows ((low_cL low_cPrune_state) _)) (tights_cons rfl rfl))) (shh (b0 := rfb cHeld a2) (by kernel_rfl) (NoRef.shb (noref_rfb low_cHeld _)) shh_nil))) ⟨g1392, g1393, g1394, g1395, g1396, g1397, g1398, rfl, rfl, hF⟩
 refine xq ?_
 refine wh 6 ?_
 refine we ?_
 refine ng ?_
 refine xb ?_
 refine x_loop (fun d fr H => ∃ (x1433 : (Mp Int Int) × Int) (g1427 : Option Bool), fr = [.any, sl cHeld a0, .any, .any, .bool false, .map 2, .map 3, .any, .any, .any, .any, .any, .any, .any, .any, .any, .any, .any, rfv false a2 1 2, .int .i64 (a2.l.length : Int), .int .i64 x1433.2, junkB g1427, .any, .any, .any, .any, .any, .any, .any, .any, .any, .any, .any, .any, .any, .any, .any, .any, .any, .any, .any, .any, .any, .any, .any, .any, .any, .any, .any, .any, .any, .any, .any, .any, .any] ∧ H = [.cells ((cL cPrune_state) a1 ++ [rfv false a2 1 2]), rfb cHeld a2, mpb (AV.int .i64) (AV.int .i64) y1321, mpb (AV.int .i64) (AV.int .i64) x1433.1] ∧ loopN (prune_Book_fits_B1433 a0 a2 y1321) d x1433 = some r) (by kernel_rfl) (fun fr H ⟨x1433, g1427, e1, e2, hF⟩ => loop_no hF) (fun d1433 fr H ⟨x1433, g1427, e1, e2, hF⟩ => ?_) (VS.sm 36028797017128845) ⟨(Mp.none, 0), none, rfl, rfl, hF⟩
 subst e1 e2
 have hF := loop_in hF
 refine xq ?_
 refine wh 1 ?_
 refine we ?_
 refine ng ?_
 refine xs ?_
 refine ite_elim hF (fun hc6 hF => ?_) (fun hc6 hF => ?_)
 ·refine kT 21 hc6 ?_
  refine xT ?_
  refine xk ?_
  refine ng ?_
  refine xs ?_
  refine xb ?_
  refine xq ?_
  refine bind_elim hF (fun y1435 hy1435 hF => w_riaddr (t := 27) (e := 41) (l := 1) (ex := false) (nl := a2.nl && a2.l.isEmpty) (kd := .i64) (k := 0) (sz := 2) (len := a2.l.length) (b := a2.l) hy1435 (Nat.le_refl _) (by kernel_rfl) (by kernel_rfl) (by kernel_rfl) ?_)
  refine w_rload cHeld (l := 1) (t := 41) (sz := 2) (fo := 0) (j := (0 + x1433.2.toNat)) a2 (v := .agg (cHeld y1435)) (z := 2) (idxL_nat hy1435) (by kernel_rfl) (by kernel_rfl) len_cHeld (by kernel_rfl) (by kernel_rfl) (by decide) (by decide) ?_
  refine wr 4 [.cells ((cL cPrune_state) a1 ++ [rfv false a2 1 2]), rfb cHeld a2, mpb (AV.int .i64) (AV.int .i64) y1321, mpb (AV.int .i64) (AV.int .i64) x1433.1, .cells (cHeld y1435)] ?_
  refine we ?_
  refine ng ?_
  refine xr ?_
  refine wh 3 ?_
  refine w_mput (AV.int .i64) (AV.int .i64) (t := 64) (l := 3) (a := y1435.Number) (v := 1) (kt := 3) (et := 3) x1433.1 (by kernel_rfl) (by kernel_rfl) (key_int (by kernel_rfl)) (by kernel_rfl) ?_
  refine we ?_
  refine block_n ?_
  refine ng ?_
  refine xr ?_
  refine wr 2 [.cells ((cL cPrune_state) a1 ++ [rfv false a2 1 2]), rfb cHeld a2, mpb (AV.int .i64) (AV.int .i64) y1321, mpb (AV.int .i64) (AV.int .i64) (Mp.put x1433.1 y1435.Number 1), .cells (cHeld y1435)] ?_
  refine we ?_
  refine then_n ?_
  exact x_back (VS.si [0, 1, 2, 3] 36028797017128845 (tights_at [1] (by kernel_rfl) (by exact ⟨(tight_sl low_cHeld), trivial⟩)) (shh (b0 := .cells ((cL cPrune_state) a1 ++ [rfv false a2 1 2])) (by kernel_rfl) (shb_cells (by kernel_rfl) (by kernel_rfl) (tights_app (tights_lows ((low_cL low_cPrune_state) _)) (tights_cons rfl rfl))) (shh (b0 := rfb cHeld a2) (by kernel_rfl) (NoRef.shb (noref_rfb low_cHeld _)) (shh (b0 := mpb (AV.int .i64) (AV.int .i64) y1321) (by kernel_rfl) (NoRef.shb (noref_mpb (fun _ => rfl) (fun _ => rfl) _)) (shh (b0 := mpb (AV.int .i64) (AV.int .i64) (Mp.put x1433.1 y1435.Number 1)) (by kernel_rfl) (NoRef.shb (noref_mpb (fun _ => rfl) (fun _ => rfl) _)) shh_nil))))) ⟨(Mp.put x1433.1 y1435.Number 1, iAdd .i64 x1433.2 1), (some true), rfl, rfl, hF⟩
 refine kF 21 hc6 ?_
 refine xF ?_
 refine xe ?_
 refine then_e ?_
 refine then_e ?_
 refine block_e ?_
 refine then_n ?_
 exact x_to hJ1 (VS.sm 36028797016866701) ⟨x1433.1, rfl, rfl, hF⟩
def prune_Book_many_J4 (p1461 : Int) : Option Int :=
  some p1461
def prune_Book_many_J7 (k1479 : (Int × Int) → Option Int) (x1479 : Int × Int) (p1481 : Int) : Option Int :=
  k1479 (p1481, iAdd .i64 x1479.2 1)
def prune_Book_many_B1479 (a0 : Sl Held) (y1439 : (Mp Int Int)) (k1479 : (Int × Int) → Option Int) (x1479 : Int × Int) : Option Int :=
  if iLt x1479.2 (a0.l.length : Int) = true then (idxL a0.l x1479.2).bind fun y1483 => if ((Mp.get y1439 y1483.Number).getD 0 == 0) = true then prune_Book_many_J7 k1479 x1479 (iAdd .i64 x1479.1 1) else prune_Book_many_J7 k1479 x1479 x1479.1 else prune_Book_many_J4 x1479.1
def prune_Book_many (a0 : Sl Held) (a1 : Sl Prune_state) (a2 : Sl Held) : Option Int :=
  (prune_Book_sizes a1 a2).bind fun y1439 => loopN (prune_Book_many_B1479 a0 y1439) FUEL (iAdd .i64 (y1439.l.length : Int) (a2.l.length : Int), 0)
theorem prune_Book_many_ev {a0 : Sl Held} {a1 : Sl Prune_state} {a2 : Sl Held} {r : Int} (hF : prune_Book_many a0 a1 a2 = some r) : EvCall Try.prog T G0 35 [.ptr 0 0, sl cHeld a0] [.cells ((cL cPrune_state) a1 ++ [rfv false a2 1 2]), rfb cHeld a2] (fun v H' => v = .int .i64 r ∧ H' = [.cells ((cL cPrune_state) a1 ++ [rfv false a2 1 2]), rfb cHeld a2]) := by
 refine xc Try.func35 ?_
 refine xq ?_
 refine wh 1 ?_
 refine we ?_
 refine ng ?_
 refine xq ?_
 refine wh 1 ?_
 refine bind_elim hF (fun y1439 hy1439 hF => uO [0, 1] [0, 1, 2] (v := .map 2) [.cells ((cL cPrune_state) a1 ++ [rfv false a2 1 2]), rfb cHeld a2, mpb (AV.int .i64) (AV.int .i64) y1439] [.cells ((cL cPrune_state) a1 ++ [rfv false a2 1 2]), rfb cHeld a2, mpb (AV.int .i64) (AV.int .i64) y1439] (prune_Book_sizes_ev hy1439) (by kernel_rfl) (pl (b' := .cells ((cL cPrune_state) a1 ++ [rfv false a2 1 2])) (by kernel_rfl) (sb_cells (by kernel_rfl) (by kernel_rfl) (tights_app (tights_lows ((low_cL low_cPrune_state) _)) (tights_cons rfl rfl))) (pl (b' := rfb cHeld a2) (by kernel_rfl) (sb_low (noref_rfb low_cHeld _)) pl_nil)) rfl (sbs (sb_cells (by kernel_rfl) (by kernel_rfl) (tights_app (tights_lows ((low_cL low_cPrune_state) _)) (tights_cons rfl rfl))) (sbs (sb_low (noref_rfb low_cHeld _)) (sbs (sb_low (noref_mpb (fun _ => rfl) (fun _ => rfl) _)) sbs_nil))) ?_)
 refine wh 3 ?_
 refine we ?_
 refine ng ?_
 refine xs ?_
 refine xd 0 call_ends callMono ?_
 refine wp 1 ?_
 refine w_mlen (AV.int .i64) (AV.int .i64) (t := 64) (l := 2) (kt := 3) (et := 3) y1439 (by kernel_rfl) (by kernel_rfl) (by kernel_rfl) ?_
 refine wp 9 ?_
 refine we ?_
 refine de ?_
 refine ng ?_
 refine xj (fun fr H => ∃ (p1461 : Int) (g1462 : Option Bool), fr = [.any, .any, .any, .any, .any, .any, .int .i64 p1461, .any, .any, .any, .any, .any, .any, .any, .any, .any, .any, .any, .any, .any, .any, .any, .bool false, .any, .any, .any, .any, .any, .any, junkB g1462, .any, .any, .any, .any] ∧ H = [.cells ((cL cPrune_state) a1 ++ [rfv false a2 1 2]), rfb cHeld a2] ∧ prune_Book_many_J4 p1461 = some r) (fun fr H ⟨p1461, g1462, e1, e2, hF⟩ => ?_) (fun hJ4 => ?_)
 ·subst e1 e2
  refine xq ?_
  refine wh 2 ?_
  refine we ?_
  refine ng ?_
  refine xt ?_
  have e := Option.some.inj hF
  subst e
  exact fS [0, 1] (.inl rfl) rfl (shh (b0 := .cells ((cL cPrune_state) a1 ++ [rfv false a2 1 2])) (by kernel_rfl) (shb_cells (by kernel_rfl) (by kernel_rfl) (tights_app (tights_lows ((low_cL low_cPrune_state) _)) (tights_cons rfl rfl))) (shh (b0 := rfb cHeld a2) (by kernel_rfl) (NoRef.shb (noref_rfb low_cHeld _)) shh_nil)) ⟨rfl, rfl⟩
 refine xq ?_
 refine wh 3 ?_
 refine we ?_
 refine ng ?_
 refine xb ?_
 refine x_loop (fun d fr H => ∃ (x1479 : Int × Int) (g1469 : Option Bool) (g1470 : Option Bool), fr = [.any, .any, .any, .any, .any, .map 2, .int .i64 x1479.1, .any, .any, .any, .any, .any, .any, .any, .any, .any, .any, .any, .any, sl cHeld a0, .int .i64 (a0.l.length : Int), .int .i64 x1479.2, junkB g1469, .any, .any, .any, .any, .any, .any, junkB g1470, .any, .any, .any, .any] ∧ H = [.cells ((cL cPrune_state) a1 ++ [rfv false a2 1 2]), rfb cHeld a2, mpb (AV.int .i64) (AV.int .i64) y1439] ∧ loopN (prune_Book_many_B1479 a0 y1439) d x1479 = some r) (by kernel_rfl) (fun fr H ⟨x1479, g1469, g1470, e1, e2, hF⟩ => loop_no hF) (fun d1479 fr H ⟨x1479, g1469, g1470, e1, e2, hF⟩ => ?_) (VS.sm 17176199071) ⟨(iAdd .i64 (y1439.l.length : Int) (a2.l.length : Int), 0), none, none, rfl, rfl, hF⟩
 subst e1 e2
 have hF := loop_in hF
 refine xq ?_
 refine wh 1 ?_
 refine we ?_
 refine ng ?_
 refine xs ?_
 refine ite_elim hF (fun hc1 hF => ?_) (fun hc1 hF => ?_)
 ·refine kT 22 hc1 ?_
  refine xT ?_
  refine xk ?_
  refine ng ?_
  refine xj (fun fr H => ∃ (p1481 : Int) (g1482 : Option Bool), fr = [.any, .any, .any, .any, .any, .map 2, .int .i64 p1481, .any, .any, .any, .any, .any, .any, .any, .any, .any, .any, .any, .any, sl cHeld a0, .int .i64 (a0.l.length : Int), .int .i64 x1479.2, .bool true, .any, .any, .any, .any, .any, .any, junkB g1482, .any, .any, .any, .any] ∧ H = [.cells ((cL cPrune_state) a1 ++ [rfv false a2 1 2]), rfb cHeld a2, mpb (AV.int .i64) (AV.int .i64) y1439] ∧ prune_Book_many_J7 (loopN (prune_Book_many_B1479 a0 y1439) d1479) x1479 p1481 = some r) (fun fr H ⟨p1481, g1482, e1, e2, hF⟩ => ?_) (fun hJ7 => ?_)
  ·subst e1 e2
   refine xr ?_
   refine wh 2 ?_
   refine we ?_
   refine then_n ?_
   exact x_back (VS.sm 16639328159) ⟨(p1481, iAdd .i64 x1479.2 1), (some true), g1482, rfl, rfl, hF⟩
  refine xb ?_
  refine xq ?_
  refine bind_elim hF (fun y1483 hy1483 hF => uI cHeld 2 hy1483 len_cHeld ?_)
  refine uE cHeld 0 (t := 41) (v := .agg (cHeld y1483)) 2 2 hy1483 len_cHeld ?_
  refine wr 4 [.cells ((cL cPrune_state) a1 ++ [rfv false a2 1 2]), rfb cHeld a2, mpb (AV.int .i64) (AV.int .i64) y1439, .cells (cHeld y1483)] ?_
  refine we ?_
  refine ng ?_
  refine xq ?_
  refine wh 3 ?_
  refine w_mget (AV.int .i64) (AV.int .i64) (t := 64) (l := 2) (a := y1483.Number) (ok := false) (kt := 3) (et := 3) (z := 0) y1439 (by kernel_rfl) (by kernel_rfl) (key_int (by kernel_rfl)) (by kernel_rfl) (by kernel_rfl) ?_
  refine wh 5 ?_
  refine we ?_
  refine ng ?_
  refine ite_elim hF (fun hc2 hF => ?_) (fun hc2 hF => ?_)
  ·refine kT 29 hc2 ?_
   refine xT ?_
   refine xr ?_
   refine wh 3 ?_
   refine we ?_
   refine block_n ?_
   refine then_n ?_
   exact x_to hJ7 (VS.si [0, 1, 2] 17172004767 (tights_at [19] (by kernel_rfl) (by exact ⟨(tight_sl low_cHeld), trivial⟩)) (shh (b0 := .cells ((cL cPrune_state) a1 ++ [rfv false a2 1 2])) (by kernel_rfl) (shb_cells (by kernel_rfl) (by kernel_rfl) (tights_app (tights_lows ((low_cL low_cPrune_state) _)) (tights_cons rfl rfl))) (shh (b0 := rfb cHeld a2) (by kernel_rfl) (NoRef.shb (noref_rfb low_cHeld _)) (shh (b0 := mpb (AV.int .i64) (AV.int .i64) y1439) (by kernel_rfl) (NoRef.shb (noref_mpb (fun _ => rfl) (fun _ => rfl) _)) shh_nil)))) ⟨iAdd .i64 x1479.1 1, (some true), rfl, rfl, hF⟩
  refine kF 29 hc2 ?_
  refine xF ?_
  refine xk ?_
  refine block_n ?_
  refine then_n ?_
  exact x_to hJ7 (VS.si [0, 1, 2] 17172004767 (tights_at [19] (by kernel_rfl) (by exact ⟨(tight_sl low_cHeld), trivial⟩)) (shh (b0 := .cells ((cL cPrune_state) a1 ++ [rfv false a2 1 2])) (by kernel_rfl) (shb_cells (by kernel_rfl) (by kernel_rfl) (tights_app (tights_lows ((low_cL low_cPrune_state) _)) (tights_cons rfl rfl))) (shh (b0 := rfb cHeld a2) (by kernel_rfl) (NoRef.shb (noref_rfb low_cHeld _)) (shh (b0 := mpb (AV.int .i64) (AV.int .i64) y1439) (by kernel_rfl) (NoRef.shb (noref_mpb (fun _ => rfl) (fun _ => rfl) _)) shh_nil)))) ⟨x1479.1, (some false), rfl, rfl, hF⟩
 refine kF 22 hc1 ?_
 refine xF ?_
 refine xe ?_
 refine then_e ?_
 refine then_e ?_
 refine block_e ?_
 refine then_n ?_
 exact x_to hJ4 (VS.shX [0, 1] 16638803903 [29] (by kernel_rfl) (by kernel_rfl) (by kernel_rfl) (by exact ⟨low_junk g1470, trivial⟩) (tights_at [29] (by kernel_rfl) (by exact ⟨(tight_junk g1470), trivial⟩)) (shh (b0 := .cells ((cL cPrune_state) a1 ++ [rfv false a2 1 2])) (by kernel_rfl) (shb_cells (by kernel_rfl) (by kernel_rfl) (tights_app (tights_lows ((low_cL low_cPrune_state) _)) (tights_cons rfl rfl))) (shh (b0 := rfb cHeld a2) (by kernel_rfl) (NoRef.shb (noref_rfb low_cHeld _)) shh_nil))) ⟨x1479.1, g1470, rfl, rfl, hF⟩
def prune_Book_Add_J1 (a0 : Int) (a1 : Sl Held) (a2 : Sl Prune_state) : Option (Int × (Sl Prune_state)) :=
  (cutL a2 none (some (a2.l.length : Int)) (some (a2.l.length : Int))).bind fun y1136 => (appX 16 (⟨false, true, []⟩ : Sl Held) a1.l).bind fun y1137 => (appX 32 y1136 (⟨false, true, [(⟨a0, y1137⟩ : Prune_state)]⟩ : Sl Prune_state).l).bind fun y1138 => some (0, y1138)
def prune_Book_Add (a0 : Int) (a1 : Sl Held) (a2 : Sl Prune_state) (a3 : Sl Held) : Option (Int × (Sl Prune_state)) :=
  if iLt a0 1 = true then some (2, a2) else if iGt a0 512 = true then some (2, a2) else if iGt (a2.l.length : Int) 0 = true then (idxL a2.l (iSub .i64 (a2.l.length : Int) 1)).bind fun y1142 => if iLe a0 y1142.number = true then some (2, a2) else (prune_plain a1).bind fun y1145 => if y1145 = true then (prune_Book_fits a1 a2 a3).bind fun y1146 => if y1146 = true then (prune_Book_many a1 a2 a3).bind fun y1147 => if iGt y1147 256 = true then some (11, a2) else prune_Book_Add_J1 a0 a1 a2 else some (2, a2) else some (2, a2) else (prune_plain a1).bind fun y1150 => if y1150 = true then (prune_Book_fits a1 a2 a3).bind fun y1151 => if y1151 = true then (prune_Book_many a1 a2 a3).bind fun y1152 => if iGt y1152 256 = true then some (11, a2) else prune_Book_Add_J1 a0 a1 a2 else some (2, a2) else some (2, a2)
theorem prune_Book_Add_ev {a0 : Int} {a1 : Sl Held} {a2 : Sl Prune_state} {a3 : Sl Held} {r : Int × (Sl Prune_state)} (hF : prune_Book_Add a0 a1 a2 a3 = some r) : EvCall Try.prog T G0 19 [.ptr 0 0, .int .i64 a0, sl cHeld a1] [.cells ((cL cPrune_state) a2 ++ [rfv false a3 1 2]), rfb cHeld a3] (fun v H' => v = .int .i64 r.1 ∧ H' = [.cells ((cL cPrune_state) r.2 ++ [rfv false a3 1 2]), rfb cHeld a3]) := by
 refine xc Try.func19 ?_
 refine xq ?_
 refine wh 1 ?_
 refine we ?_
 refine ng ?_
 refine xj (fun fr H => ∃ (g1120 : Option Bool) (g1121 : Option Bool) (g1122 : Option Bool) (g1123 : Option Bool) (g1124 : Option Bool) (g1125 : Option Bool) (g1126 : Option Bool) (g1127 : Option Bool) (g1128 : Option Bool) (g1129 : Option Bool), fr = [.ptr 0 0, .int .i64 a0, sl cHeld a1, .any, .any, .any, .any, .bool false, .any, .bool false, .bool false, .any, .bool (iLt a0 1), .bool false, .any, .bool (iGt a0 512), .bool (iGt a0 512), .bool false, .any, .any, .any, .any, .any, .bool (iGt (a2.l.length : Int) 0), junkB g1120, .any, .any, .any, .any, .any, .any, .any, .any, .any, .any, .any, .any, .any, .any, junkB g1121, junkB g1122, junkB g1123, .bool false, .any, junkB g1124, junkB g1125, .bool false, .any, .any, junkB g1126, junkB g1127, junkB g1128, .bool false, .any, .any, .any, junkB g1129, .any, .any, .any, .any, .any, .any, .any, .any, .any, .any, .any, .any, .any, .any, .any, .any, .any, .any, .any, .any, .any, .any, .any, .any, .any] ∧ H = [.cells ((cL cPrune_state) a2 ++ [rfv false a3 1 2]), rfb cHeld a3] ∧ prune_Book_Add_J1 a0 a1 a2 = some r) (fun fr H ⟨g1120, g1121, g1122, g1123, g1124, g1125, g1126, g1127, g1128, g1129, e1, e2, hF⟩ => ?_) (fun hJ1 => ?_)
 ·subst e1 e2
  refine xs ?_
  refine x_rows 0 33554431 [⟨25, [], [], [], []⟩] call_ends callMono (by kernel_rfl) (by kernel_rfl) ?_
  refine wp 15 ?_
  refine bind_elim hF (fun y1136 hy1136 hF => w_slice cPrune_state (sz := 2) hy1136 (by kernel_rfl) len_cPrune_state (fun _ => rfl) ?_)
  refine wp 17 ?_
  refine w_frz (v := sl cHeld (⟨false, true, []⟩ : Sl Held)) (by kernel_rfl) ?_
  refine wp 19 ?_
  refine bind_elim hF (fun y1137 hy1137 hF => w_appL cHeld (e := 41) (sz := 2) (x := (⟨false, true, []⟩ : Sl Held)) (ys := a1.l) hy1137 (by kernel_rfl) (by kernel_rfl) (by decide) len_cHeld (gives_sl (x := a1) (by kernel_rfl) len_cHeld) ?_)
  refine wp 21 ?_
  refine w_frz (v := sl cPrune_state (⟨false, true, [(⟨a0, y1137⟩ : Prune_state)]⟩ : Sl Prune_state)) (by kernel_rfl) ?_
  refine bind_elim hF (fun y1138 hy1138 hF => w_appL cPrune_state (e := 63) (sz := 2) (x := y1136) (ys := (⟨false, true, [(⟨a0, y1137⟩ : Prune_state)]⟩ : Sl Prune_state).l) hy1138 (cut_ex hy1136) (by kernel_rfl) (by decide) len_cPrune_state (gives_sl (x := (⟨false, true, [(⟨a0, y1137⟩ : Prune_state)]⟩ : Sl Prune_state)) (by kernel_rfl) len_cPrune_state) ?_)
  refine wp 25 ?_
  refine we ?_
  refine rows_next ?_
  refine wr 1 [.cells ((cL cPrune_state) y1138 ++ [rfv false a3 1 2]), rfb cHeld a3] ?_
  refine we ?_
  refine ⟨⟨(by kernel_rfl), trivial⟩, ?_⟩
  refine we ?_
  refine rows_done ?_
  refine de ?_
  refine ng ?_
  refine xq ?_
  refine wh 1 ?_
  refine we ?_
  refine ng ?_
  refine xt ?_
  have e := Option.some.inj hF
  subst e
  exact fS [0, 1] (.inl rfl) rfl (shh (b0 := .cells ((cL cPrune_state) y1138 ++ [rfv false a3 1 2])) (by kernel_rfl) (shb_cells (by kernel_rfl) (by kernel_rfl) (tights_app (tights_lows ((low_cL low_cPrune_state) _)) (tights_cons rfl rfl))) (shh (b0 := rfb cHeld a3) (by kernel_rfl) (NoRef.shb (noref_rfb low_cHeld _)) shh_nil)) ⟨rfl, rfl⟩
 refine xb ?_
 refine xq ?_
 refine wh 3 ?_
 refine we ?_
 refine ng ?_
 refine xF ?_
 refine xs ?_
 refine xd 0 call_ends callMono ?_
 refine wp 3 ?_
 refine ite_elim hF (fun hc1 hF => ?_) (fun hc1 hF => ?_)
 ·refine wT 13 hc1 ?_
  refine wp 32 ?_
  refine we ?_
  refine de ?_
  refine ng ?_
  refine xT ?_
  refine xq ?_
  refine wh 1 ?_
  refine we ?_
  refine ng ?_
  refine xt ?_
  refine block_r ?_
  refine then_r ?_
  have e := Option.some.inj hF
  subst e
  exact fS [0, 1] (.inl rfl) rfl (shh (b0 := .cells ((cL cPrune_state) a2 ++ [rfv false a3 1 2])) (by kernel_rfl) (shb_cells (by kernel_rfl) (by kernel_rfl) (tights_app (tights_lows ((low_cL low_cPrune_state) _)) (tights_cons rfl rfl))) (shh (b0 := rfb cHeld a3) (by kernel_rfl) (NoRef.shb (noref_rfb low_cHeld _)) shh_nil)) ⟨rfl, rfl⟩
 refine wF 13 hc1 ?_
 refine wp 7 ?_
 refine ite_elim hF (fun hc2 hF => ?_) (fun hc2 hF => ?_)
 ·refine wT 17 hc2 ?_
  refine wp 32 ?_
  refine we ?_
  refine de ?_
  refine ng ?_
  refine xT ?_
  refine xq ?_
  refine wh 1 ?_
  refine we ?_
  refine ng ?_
  refine xt ?_
  refine block_r ?_
  refine then_r ?_
  have e := Option.some.inj hF
  subst e
  exact fS [0, 1] (.inl rfl) rfl (shh (b0 := .cells ((cL cPrune_state) a2 ++ [rfv false a3 1 2])) (by kernel_rfl) (shb_cells (by kernel_rfl) (by kernel_rfl) (tights_app (tights_lows ((low_cL low_cPrune_state) _)) (tights_cons rfl rfl))) (shh (b0 := rfb cHeld a3) (by kernel_rfl) (NoRef.shb (noref_rfb low_cHeld _)) shh_nil)) ⟨rfl, rfl⟩
 refine wF 17 hc2 ?_
 refine wp 14 ?_
 refine ite_elim hF (fun hc3 hF => ?_) (fun hc3 hF => ?_)
 ·refine wT 24 hc3 ?_
  refine wp 25 ?_
  refine bind_elim hF (fun y1142 hy1142 hF => uI cPrune_state 2 hy1142 len_cPrune_state ?_)
  refine wp 27 ?_
  refine uE cPrune_state 0 (t := 3) (v := .int .i64 y1142.number) 2 1 hy1142 len_cPrune_state ?_
  refine wp 32 ?_
  refine we ?_
  refine de ?_
  refine ng ?_
  refine ite_elim hF (fun hc4 hF => ?_) (fun hc4 hF => ?_)
  ·refine kT 10 hc4 ?_
   refine xT ?_
   refine xq ?_
   refine wh 1 ?_
   refine we ?_
   refine ng ?_
   refine xt ?_
   refine block_r ?_
   refine then_r ?_
   have e := Option.some.inj hF
   subst e
   exact fS [0, 1] (.inl rfl) rfl (shh (b0 := .cells ((cL cPrune_state) a2 ++ [rfv false a3 1 2])) (by kernel_rfl) (shb_cells (by kernel_rfl) (by kernel_rfl) (tights_app (tights_lows ((low_cL low_cPrune_state) _)) (tights_cons rfl rfl))) (shh (b0 := rfb cHeld a3) (by kernel_rfl) (NoRef.shb (noref_rfb low_cHeld _)) shh_nil)) ⟨rfl, rfl⟩
  refine kF 10 hc4 ?_
  refine xF ?_
  refine xq ?_
  refine wh 1 ?_
  refine bind_elim hF (fun y1145 hy1145 hF => uC (prune_plain_ev hy1145) (lows_cons (low_sl low_cHeld) rfl) rfl ?_)
  refine wh 4 ?_
  refine ite_elim hF (fun hc5 hF => ?_) (fun hc5 hF => ?_)
  ·refine wF 46 (show (!y1145) = false by rw [hc5]; rfl) ?_
   refine wh 6 ?_
   refine bind_elim hF (fun y1146 hy1146 hF => uOs [0, 1] [0, 1] (v := .bool y1146) [.cells ((cL cPrune_state) a2 ++ [rfv false a3 1 2]), rfb cHeld a3] (prune_Book_fits_ev hy1146) (tights_cons rfl (tights_cons (tight_sl low_cHeld) rfl)) (pl (b' := .cells ((cL cPrune_state) a2 ++ [rfv false a3 1 2])) (by kernel_rfl) (sb_cells (by kernel_rfl) (by kernel_rfl) (tights_app (tights_lows ((low_cL low_cPrune_state) _)) (tights_cons rfl rfl))) (pl (b' := rfb cHeld a3) (by kernel_rfl) (sb_low (noref_rfb low_cHeld _)) pl_nil)) rfl (sbs (sb_cells (by kernel_rfl) (by kernel_rfl) (tights_app (tights_lows ((low_cL low_cPrune_state) _)) (tights_cons rfl rfl))) (sbs (sb_low (noref_rfb low_cHeld _)) sbs_nil)) ?_)
   refine wh 10 ?_
   refine we ?_
   refine ng ?_
   refine ite_elim hF (fun hc6 hF => ?_) (fun hc6 hF => ?_)
   ·refine kF 42 (show (!y1146) = false by rw [hc6]; rfl) ?_
    refine xF ?_
    refine xq ?_
    refine wh 2 ?_
    refine bind_elim hF (fun y1147 hy1147 hF => uOs [0, 1] [0, 1] (v := .int .i64 y1147) [.cells ((cL cPrune_state) a2 ++ [rfv false a3 1 2]), rfb cHeld a3] (prune_Book_many_ev hy1147) (tights_cons rfl (tights_cons (tight_sl low_cHeld) rfl)) (pl (b' := .cells ((cL cPrune_state) a2 ++ [rfv false a3 1 2])) (by kernel_rfl) (sb_cells (by kernel_rfl) (by kernel_rfl) (tights_app (tights_lows ((low_cL low_cPrune_state) _)) (tights_cons rfl rfl))) (pl (b' := rfb cHeld a3) (by kernel_rfl) (sb_low (noref_rfb low_cHeld _)) pl_nil)) rfl (sbs (sb_cells (by kernel_rfl) (by kernel_rfl) (tights_app (tights_lows ((low_cL low_cPrune_state) _)) (tights_cons rfl rfl))) (sbs (sb_low (noref_rfb low_cHeld _)) sbs_nil)) ?_)
    refine wh 5 ?_
    refine we ?_
    refine ng ?_
    refine ite_elim hF (fun hc7 hF => ?_) (fun hc7 hF => ?_)
    ·refine kT 52 hc7 ?_
     refine xT ?_
     refine xq ?_
     refine wh 1 ?_
     refine we ?_
     refine ng ?_
     refine xt ?_
     refine block_r ?_
     refine then_r ?_
     have e := Option.some.inj hF
     subst e
     exact fS [0, 1] (.inl rfl) rfl (shh (b0 := .cells ((cL cPrune_state) a2 ++ [rfv false a3 1 2])) (by kernel_rfl) (shb_cells (by kernel_rfl) (by kernel_rfl) (tights_app (tights_lows ((low_cL low_cPrune_state) _)) (tights_cons rfl rfl))) (shh (b0 := rfb cHeld a3) (by kernel_rfl) (NoRef.shb (noref_rfb low_cHeld _)) shh_nil)) ⟨rfl, rfl⟩
    refine kF 52 hc7 ?_
    refine xF ?_
    refine xk ?_
    refine block_n ?_
    refine then_n ?_
    exact x_to hJ1 (VS.sm 4835703273880150272133496) ⟨(some true), (some (iLe a0 y1142.number)), (some (iLe a0 y1142.number)), (some (iLe a0 y1142.number)), (some y1145), (some (!y1145)), (some y1146), (some (!y1146)), (some (!y1146)), (some (iGt y1147 256)), rfl, rfl, hF⟩
   refine kT 42 (show (!y1146) = true by rw [hc6]; rfl) ?_
   refine xT ?_
   refine xq ?_
   refine wh 1 ?_
   refine we ?_
   refine ng ?_
   refine xt ?_
   refine block_r ?_
   refine then_r ?_
   have e := Option.some.inj hF
   subst e
   exact fS [0, 1] (.inl rfl) rfl (shh (b0 := .cells ((cL cPrune_state) a2 ++ [rfv false a3 1 2])) (by kernel_rfl) (shb_cells (by kernel_rfl) (by kernel_rfl) (tights_app (tights_lows ((low_cL low_cPrune_state) _)) (tights_cons rfl rfl))) (shh (b0 := rfb cHeld a3) (by kernel_rfl) (NoRef.shb (noref_rfb low_cHeld _)) shh_nil)) ⟨rfl, rfl⟩
  refine wT 46 (show (!y1145) = true by rw [hc5]; rfl) ?_
  refine wh 10 ?_
  refine we ?_
  refine ng ?_
  refine xT ?_
  refine xq ?_
  refine wh 1 ?_
  refine we ?_
  refine ng ?_
  refine xt ?_
  refine block_r ?_
  refine then_r ?_
  have e := Option.some.inj hF
  subst e
  exact fS [0, 1] (.inl rfl) rfl (shh (b0 := .cells ((cL cPrune_state) a2 ++ [rfv false a3 1 2])) (by kernel_rfl) (shb_cells (by kernel_rfl) (by kernel_rfl) (tights_app (tights_lows ((low_cL low_cPrune_state) _)) (tights_cons rfl rfl))) (shh (b0 := rfb cHeld a3) (by kernel_rfl) (NoRef.shb (noref_rfb low_cHeld _)) shh_nil)) ⟨rfl, rfl⟩
 refine wF 24 hc3 ?_
 refine wp 32 ?_
 refine we ?_
 refine de ?_
 refine ng ?_
 refine xF ?_
 refine xq ?_
 refine wh 1 ?_
 refine bind_elim hF (fun y1150 hy1150 hF => uC (prune_plain_ev hy1150) (lows_cons (low_sl low_cHeld) rfl) rfl ?_)
 refine wh 4 ?_
 refine ite_elim hF (fun hc8 hF => ?_) (fun hc8 hF => ?_)
 ·refine wF 46 (show (!y1150) = false by rw [hc8]; rfl) ?_
  refine wh 6 ?_
  refine bind_elim hF (fun y1151 hy1151 hF => uOs [0, 1] [0, 1] (v := .bool y1151) [.cells ((cL cPrune_state) a2 ++ [rfv false a3 1 2]), rfb cHeld a3] (prune_Book_fits_ev hy1151) (tights_cons rfl (tights_cons (tight_sl low_cHeld) rfl)) (pl (b' := .cells ((cL cPrune_state) a2 ++ [rfv false a3 1 2])) (by kernel_rfl) (sb_cells (by kernel_rfl) (by kernel_rfl) (tights_app (tights_lows ((low_cL low_cPrune_state) _)) (tights_cons rfl rfl))) (pl (b' := rfb cHeld a3) (by kernel_rfl) (sb_low (noref_rfb low_cHeld _)) pl_nil)) rfl (sbs (sb_cells (by kernel_rfl) (by kernel_rfl) (tights_app (tights_lows ((low_cL low_cPrune_state) _)) (tights_cons rfl rfl))) (sbs (sb_low (noref_rfb low_cHeld _)) sbs_nil)) ?_)
  refine wh 10 ?_
  refine we ?_
  refine ng ?_
  refine ite_elim hF (fun hc9 hF => ?_) (fun hc9 hF => ?_)
  ·refine kF 42 (show (!y1151) = false by rw [hc9]; rfl) ?_
   refine xF ?_
   refine xq ?_
   refine wh 2 ?_
   refine bind_elim hF (fun y1152 hy1152 hF => uOs [0, 1] [0, 1] (v := .int .i64 y1152) [.cells ((cL cPrune_state) a2 ++ [rfv false a3 1 2]), rfb cHeld a3] (prune_Book_many_ev hy1152) (tights_cons rfl (tights_cons (tight_sl low_cHeld) rfl)) (pl (b' := .cells ((cL cPrune_state) a2 ++ [rfv false a3 1 2])) (by kernel_rfl) (sb_cells (by kernel_rfl) (by kernel_rfl) (tights_app (tights_lows ((low_cL low_cPrune_state) _)) (tights_cons rfl rfl))) (pl (b' := rfb cHeld a3) (by kernel_rfl) (sb_low (noref_rfb low_cHeld _)) pl_nil)) rfl (sbs (sb_cells (by kernel_rfl) (by kernel_rfl) (tights_app (tights_lows ((low_cL low_cPrune_state) _)) (tights_cons rfl rfl))) (sbs (sb_low (noref_rfb low_cHeld _)) sbs_nil)) ?_)
   refine wh 5 ?_
   refine we ?_
   refine ng ?_
   refine ite_elim hF (fun hc10 hF => ?_) (fun hc10 hF => ?_)
   ·refine kT 52 hc10 ?_
    refine xT ?_
    refine xq ?_
    refine wh 1 ?_
    refine we ?_
    refine ng ?_
    refine xt ?_
    refine block_r ?_
    refine then_r ?_
    have e := Option.some.inj hF
    subst e
    exact fS [0, 1] (.inl rfl) rfl (shh (b0 := .cells ((cL cPrune_state) a2 ++ [rfv false a3 1 2])) (by kernel_rfl) (shb_cells (by kernel_rfl) (by kernel_rfl) (tights_app (tights_lows ((low_cL low_cPrune_state) _)) (tights_cons rfl rfl))) (shh (b0 := rfb cHeld a3) (by kernel_rfl) (NoRef.shb (noref_rfb low_cHeld _)) shh_nil)) ⟨rfl, rfl⟩
   refine kF 52 hc10 ?_
   refine xF ?_
   refine xk ?_
   refine block_n ?_
   refine then_n ?_
   exact x_to hJ1 (VS.sm 4835703273880150272133496) ⟨(some false), none, (some false), (some false), (some y1150), (some (!y1150)), (some y1151), (some (!y1151)), (some (!y1151)), (some (iGt y1152 256)), rfl, rfl, hF⟩
  refine kT 42 (show (!y1151) = true by rw [hc9]; rfl) ?_
  refine xT ?_
  refine xq ?_
  refine wh 1 ?_
  refine we ?_
  refine ng ?_
  refine xt ?_
  refine block_r ?_
  refine then_r ?_
  have e := Option.some.inj hF
  subst e
  exact fS [0, 1] (.inl rfl) rfl (shh (b0 := .cells ((cL cPrune_state) a2 ++ [rfv false a3 1 2])) (by kernel_rfl) (shb_cells (by kernel_rfl) (by kernel_rfl) (tights_app (tights_lows ((low_cL low_cPrune_state) _)) (tights_cons rfl rfl))) (shh (b0 := rfb cHeld a3) (by kernel_rfl) (NoRef.shb (noref_rfb low_cHeld _)) shh_nil)) ⟨rfl, rfl⟩
 refine wT 46 (show (!y1150) = true by rw [hc8]; rfl) ?_
 refine wh 10 ?_
 refine we ?_
 refine ng ?_
 refine xT ?_
 refine xq ?_
 refine wh 1 ?_
 refine we ?_
 refine ng ?_
 refine xt ?_
 refine block_r ?_
 refine then_r ?_
 have e := Option.some.inj hF
 subst e
 exact fS [0, 1] (.inl rfl) rfl (shh (b0 := .cells ((cL cPrune_state) a2 ++ [rfv false a3 1 2])) (by kernel_rfl) (shb_cells (by kernel_rfl) (by kernel_rfl) (tights_app (tights_lows ((low_cL low_cPrune_state) _)) (tights_cons rfl rfl))) (shh (b0 := rfb cHeld a3) (by kernel_rfl) (NoRef.shb (noref_rfb low_cHeld _)) shh_nil)) ⟨rfl, rfl⟩
def r24_Rise_J4  : Option Bool :=
  some true
def r24_Rise_J7 (k1324 : Int → Option Bool) (x1324 : Int) : Option Bool :=
  k1324 (iAdd .i64 x1324 1)
def r24_Rise_B1324 (a0 : Sl Held) (k1324 : Int → Option Bool) (x1324 : Int) : Option Bool :=
  if iLt x1324 (a0.l.length : Int) = true then (idxL a0.l x1324).bind fun y1338 => if iLt y1338.Number 0 = true then some false else if iGt y1338.Number 1099511627776 = true then some false else if iLt y1338.Size 0 = true then some false else if iGt y1338.Size 4096 = true then some false else if iGt x1324 0 = true then (idxL a0.l (iSub .i64 x1324 1)).bind fun y1342 => if iGe y1342.Number y1338.Number = true then some false else r24_Rise_J7 k1324 x1324 else r24_Rise_J7 k1324 x1324 else r24_Rise_J4
def r24_Rise (a0 : Sl Held) : Option Bool :=
  loopN (r24_Rise_B1324 a0) FUEL 0
theorem r24_Rise_ev {a0 : Sl Held} {r : Bool} (hF : r24_Rise a0 = some r) : EvCall Try.prog T G0 44 [sl cHeld a0] [] (fun v H' => v = .bool r ∧ H' = []) := by
 refine xc Try.func44 ?_
 refine xq ?_
 refine wh 1 ?_
 refine we ?_
 refine ng ?_
 refine xj (fun fr H => ∃ (g1242 : Option Bool) (g1243 : Option Bool) (g1244 : Option Bool) (g1245 : Option Bool) (g1246 : Option Bool) (g1247 : Option Bool) (g1248 : Option Bool) (g1249 : Option Bool) (g1250 : Option Bool) (g1251 : Option Bool) (g1252 : Option Bool) (g1253 : Option Bool) (g1254 : Option Bool) (g1255 : Option Bool), fr = [.any, .any, .bool false, .any, .any, .any, .any, .any, .bool false, .any, .any, .any, .any, .any, .any, .any, .any, junkB g1242, junkB g1243, .any, .any, junkB g1244, junkB g1245, junkB g1246, .any, .any, junkB g1247, junkB g1248, junkB g1249, .any, .any, junkB g1250, junkB g1251, .any, junkB g1252, junkB g1253, .any, .any, .any, .any, .any, .any, .any, .any, junkB g1254, junkB g1255] ∧ H = [] ∧ r24_Rise_J4 = some r) (fun fr H ⟨g1242, g1243, g1244, g1245, g1246, g1247, g1248, g1249, g1250, g1251, g1252, g1253, g1254, g1255, e1, e2, hF⟩ => ?_) (fun hJ4 => ?_)
 ·subst e1 e2
  refine xq ?_
  refine wh 1 ?_
  refine we ?_
  refine ng ?_
  refine xt ?_
  have e := Option.some.inj hF
  subst e
  exact fE [] (.inl rfl) rfl ⟨rfl, rfl⟩
 refine xq ?_
 refine wh 1 ?_
 refine we ?_
 refine ng ?_
 refine xb ?_
 refine x_loop (fun d fr H => ∃ (x1324 : Int) (g1275 : Option Bool) (g1276 : Option Bool) (g1277 : Option Bool) (g1278 : Option Bool) (g1279 : Option Bool) (g1280 : Option Bool) (g1281 : Option Bool) (g1282 : Option Bool) (g1283 : Option Bool) (g1284 : Option Bool) (g1285 : Option Bool) (g1286 : Option Bool) (g1287 : Option Bool) (g1288 : Option Bool) (g1289 : Option Bool), fr = [sl cHeld a0, .any, .bool false, .int .i64 x1324, .any, .any, .any, .any, junkB g1275, .any, .any, .any, .any, .any, .any, .any, .any, junkB g1276, junkB g1277, .any, .any, junkB g1278, junkB g1279, junkB g1280, .any, .any, junkB g1281, junkB g1282, junkB g1283, .any, .any, junkB g1284, junkB g1285, .any, junkB g1286, junkB g1287, .any, .any, .any, .any, .any, .any, .any, .any, junkB g1288, junkB g1289] ∧ H = [] ∧ loopN (r24_Rise_B1324 a0) d x1324 = some r) (by kernel_rfl) (fun fr H ⟨x1324, g1275, g1276, g1277, g1278, g1279, g1280, g1281, g1282, g1283, g1284, g1285, g1286, g1287, g1288, g1289, e1, e2, hF⟩ => loop_no hF) (fun d1324 fr H ⟨x1324, g1275, g1276, g1277, g1278, g1279, g1280, g1281, g1282, g1283, g1284, g1285, g1286, g1287, g1288, g1289, e1, e2, hF⟩ => ?_) (VS.sm 70368744177650) ⟨0, none, none, none, none, none, none, none, none, none, none, none, none, none, none, none, rfl, rfl, hF⟩
 subst e1 e2
 have hF := loop_in hF
 refine xs ?_
 refine xq ?_
 refine wh 4 ?_
 refine we ?_
 refine ng ?_
 refine ite_elim hF (fun hc1 hF => ?_) (fun hc1 hF => ?_)
 ·refine kT 8 hc1 ?_
  refine xT ?_
  refine xk ?_
  refine ng ?_
  refine xj (fun fr H => ∃ (g1330 : Option Bool) (g1331 : Option Bool) (g1332 : Option Bool) (g1333 : Option Bool) (g1334 : Option Bool) (g1335 : Option Bool) (g1336 : Option Bool) (g1337 : Option Bool), fr = [sl cHeld a0, .any, .bool false, .int .i64 x1324, .any, .any, .any, .any, .bool true, .any, .any, .any, .any, .any, .any, .any, .any, junkB g1330, .bool false, .any, .any, junkB g1331, junkB g1332, .bool false, .any, .any, junkB g1333, junkB g1334, .bool false, .any, .any, junkB g1335, .bool false, .any, .bool (iGt x1324 0), junkB g1336, .any, .any, .any, .any, .any, .any, .any, .any, junkB g1337, .bool false] ∧ H = [] ∧ r24_Rise_J7 (loopN (r24_Rise_B1324 a0) d1324) x1324 = some r) (fun fr H ⟨g1330, g1331, g1332, g1333, g1334, g1335, g1336, g1337, e1, e2, hF⟩ => ?_) (fun hJ7 => ?_)
  ·subst e1 e2
   refine xr ?_
   refine wh 3 ?_
   refine we ?_
   refine then_n ?_
   exact x_back (VS.sm 52739843162098) ⟨iAdd .i64 x1324 1, (some true), g1330, (some false), g1331, g1332, (some false), g1333, g1334, (some false), g1335, (some false), (some (iGt x1324 0)), g1336, g1337, (some false), rfl, rfl, hF⟩
  refine xb ?_
  refine xq ?_
  refine wh 2 ?_
  refine bind_elim hF (fun y1338 hy1338 hF => uI cHeld 2 hy1338 len_cHeld ?_)
  refine uE cHeld 0 (t := 41) (v := .agg (cHeld y1338)) 2 2 hy1338 len_cHeld ?_
  refine wr 6 [.cells (cHeld y1338)] ?_
  refine we ?_
  refine ng ?_
  refine xs ?_
  refine xq ?_
  refine wh 4 ?_
  refine ite_elim hF (fun hc2 hF => ?_) (fun hc2 hF => ?_)
  ·refine wT 18 hc2 ?_
   refine wh 18 ?_
   refine we ?_
   refine ng ?_
   refine xT ?_
   refine xq ?_
   refine wh 1 ?_
   refine we ?_
   refine ng ?_
   refine xt ?_
   refine then_r ?_
   refine block_r ?_
   refine then_r ?_
   refine then_r ?_
   refine block_r ?_
   refine then_r ?_
   have e := Option.some.inj hF
   subst e
   exact fE [] (.inl rfl) rfl ⟨rfl, rfl⟩
  refine wF 18 hc2 ?_
  refine wh 9 ?_
  refine ite_elim hF (fun hc3 hF => ?_) (fun hc3 hF => ?_)
  ·refine wT 23 hc3 ?_
   refine wh 18 ?_
   refine we ?_
   refine ng ?_
   refine xT ?_
   refine xq ?_
   refine wh 1 ?_
   refine we ?_
   refine ng ?_
   refine xt ?_
   refine then_r ?_
   refine block_r ?_
   refine then_r ?_
   refine then_r ?_
   refine block_r ?_
   refine then_r ?_
   have e := Option.some.inj hF
   subst e
   exact fE [] (.inl rfl) rfl ⟨rfl, rfl⟩
  refine wF 23 hc3 ?_
  refine wh 14 ?_
  refine ite_elim hF (fun hc4 hF => ?_) (fun hc4 hF => ?_)
  ·refine wT 28 hc4 ?_
   refine wh 18 ?_
   refine we ?_
   refine ng ?_
   refine xT ?_
   refine xq ?_
   refine wh 1 ?_
   refine we ?_
   refine ng ?_
   refine xt ?_
   refine then_r ?_
   refine block_r ?_
   refine then_r ?_
   refine then_r ?_
   refine block_r ?_
   refine then_r ?_
   have e := Option.some.inj hF
   subst e
   exact fE [] (.inl rfl) rfl ⟨rfl, rfl⟩
  refine wF 28 hc4 ?_
  refine wh 18 ?_
  refine we ?_
  refine ng ?_
  refine ite_elim hF (fun hc5 hF => ?_) (fun hc5 hF => ?_)
  ·refine kT 32 hc5 ?_
   refine xT ?_
   refine xq ?_
   refine wh 1 ?_
   refine we ?_
   refine ng ?_
   refine xt ?_
   refine then_r ?_
   refine block_r ?_
   refine then_r ?_
   refine then_r ?_
   refine block_r ?_
   refine then_r ?_
   have e := Option.some.inj hF
   subst e
   exact fE [] (.inl rfl) rfl ⟨rfl, rfl⟩
  refine kF 32 hc5 ?_
  refine xF ?_
  refine xk ?_
  refine ng ?_
  refine xs ?_
  refine xd 0 call_ends callMono ?_
  refine wp 3 ?_
  refine ite_elim hF (fun hc6 hF => ?_) (fun hc6 hF => ?_)
  ·refine wT 35 hc6 ?_
   refine wp 6 ?_
   refine bind_elim hF (fun y1342 hy1342 hF => uI cHeld 2 hy1342 len_cHeld ?_)
   refine wp 8 ?_
   refine uE cHeld 0 (t := 3) (v := .int .i64 y1342.Number) 2 1 hy1342 len_cHeld ?_
   refine wp 13 ?_
   refine we ?_
   refine de ?_
   refine ng ?_
   refine ite_elim hF (fun hc7 hF => ?_) (fun hc7 hF => ?_)
   ·refine kT 45 hc7 ?_
    refine xT ?_
    refine xq ?_
    refine wh 1 ?_
    refine we ?_
    refine ng ?_
    refine xt ?_
    refine block_r ?_
    refine then_r ?_
    refine then_r ?_
    refine block_r ?_
    refine then_r ?_
    have e := Option.some.inj hF
    subst e
    exact fE [] (.inl rfl) rfl ⟨rfl, rfl⟩
   refine kF 45 hc7 ?_
   refine xF ?_
   refine xk ?_
   refine block_n ?_
   refine then_n ?_
   exact x_to hJ7 (VS.si [] 35162620165874 (tights_at [0] (by kernel_rfl) (by exact ⟨(tight_sl low_cHeld), trivial⟩)) shh_nil) ⟨(some (iLt y1338.Number 0)), (some (iGt y1338.Number 1099511627776)), (some (iGt y1338.Number 1099511627776)), (some (iLt y1338.Size 0)), (some (iLt y1338.Size 0)), (some (iGt y1338.Size 4096)), (some true), (some (iGe y1342.Number y1338.Number)), rfl, rfl, hF⟩
  refine wF 35 hc6 ?_
  refine wp 13 ?_
  refine we ?_
  refine de ?_
  refine ng ?_
  refine xF ?_
  refine xk ?_
  refine block_n ?_
  refine then_n ?_
  exact x_to hJ7 (VS.si [] 35162620165874 (tights_at [0] (by kernel_rfl) (by exact ⟨(tight_sl low_cHeld), trivial⟩)) shh_nil) ⟨(some (iLt y1338.Number 0)), (some (iGt y1338.Number 1099511627776)), (some (iGt y1338.Number 1099511627776)), (some (iLt y1338.Size 0)), (some (iLt y1338.Size 0)), (some (iGt y1338.Size 4096)), (some false), none, rfl, rfl, hF⟩
 refine kF 8 hc1 ?_
 refine xF ?_
 refine xe ?_
 refine then_e ?_
 refine then_e ?_
 refine block_e ?_
 refine then_n ?_
 exact x_to hJ4 (VS.sm 17533719150331) ⟨g1276, g1277, g1278, g1279, g1280, g1281, g1282, g1283, g1284, g1285, g1286, g1287, g1288, g1289, rfl, rfl, hF⟩
def r24_Book_Held_J4 (p2121 : Sl Held) : Option (Sl Held) :=
  some p2121
def r24_Book_Held_J7 (k2257 : ((Sl Held) × Int) → Option (Sl Held)) (x2257 : (Sl Held) × Int) (p2289 : Sl Held) : Option (Sl Held) :=
  k2257 (p2289, iAdd .i64 x2257.2 1)
def r24_Book_Held_B2312 (a0 : Sl Affidavitref24_State) (k2257 : ((Sl Held) × Int) → Option (Sl Held)) (x2257 : (Sl Held) × Int) (k2312 : ((Sl Held) × Int) → Option (Sl Held)) (x2312 : (Sl Held) × Int) : Option (Sl Held) :=
  (idxL a0.l x2257.2).bind fun y2314 => if iLt x2312.2 (y2314.L.l.length : Int) = true then (idxL a0.l x2257.2).bind fun y2318 => (idxL y2318.L.l x2312.2).bind fun y2319 => (r24_put x2312.1 y2319).bind fun y2320 => k2312 (y2320, iAdd .i64 x2312.2 1) else r24_Book_Held_J7 k2257 x2257 x2312.1
def r24_Book_Held_B2257 (a0 : Sl Affidavitref24_State) (k2257 : ((Sl Held) × Int) → Option (Sl Held)) (x2257 : (Sl Held) × Int) : Option (Sl Held) :=
  if iLt x2257.2 (a0.l.length : Int) = true then loopN (r24_Book_Held_B2312 a0 k2257 x2257) FUEL (x2257.1, 0) else r24_Book_Held_J4 x2257.1
def r24_Book_Held (a0 : Sl Affidavitref24_State) (a1 : Sl Held) : Option (Sl Held) :=
  loopN (r24_Book_Held_B2257 a0) FUEL (a1, 0)
theorem r24_Book_Held_ev {a0 : Sl Affidavitref24_State} {a1 : Sl Held} {r : (Sl Held)} (hF : r24_Book_Held a0 a1 = some r) : EvCall Try.prog T G0 40 [.ptr 0 0] [.cells ((cL cAffidavitref24_State) a0 ++ (cL cHeld) a1)] (fun v H' => v = sl cHeld r ∧ H' = [.cells ((cL cAffidavitref24_State) a0 ++ (cL cHeld) a1)]) := by
 refine xc Try.func40 ?_
 refine xq ?_
 refine wh 1 ?_
 refine we ?_
 refine ng ?_
 refine xq ?_
 refine wh 5 ?_
 refine we ?_
 refine ng ?_
 refine xj (fun fr H => ∃ (p2121 : Sl Held) (g2122 : Option Bool), fr = [.any, .any, .any, sl cHeld p2121, .any, .any, .any, .any, .any, .any, .any, .any, .any, .any, .any, .any, .bool false, .any, .any, .any, .any, .any, .any, .any, .any, .any, .any, .any, .any, junkB g2122, .any, .any, .any, .any, .any, .any, .any, .any, .any, .any, .any, .any, .any, .any, .any, .any] ∧ H = [.cells ((cL cAffidavitref24_State) a0 ++ (cL cHeld) a1)] ∧ r24_Book_Held_J4 p2121 = some r) (fun fr H ⟨p2121, g2122, e1, e2, hF⟩ => ?_) (fun hJ4 => ?_)
 ·subst e1 e2
  refine xq ?_
  refine wh 2 ?_
  refine we ?_
  refine ng ?_
  refine xt ?_
  have e := Option.some.inj hF
  subst e
  exact fS [0] (.inl rfl) (tight_sl low_cHeld) (shh (b0 := .cells ((cL cAffidavitref24_State) a0 ++ (cL cHeld) a1)) (by kernel_rfl) (shb_cells (by kernel_rfl) (by kernel_rfl) (tights_app (tights_lows ((low_cL low_cAffidavitref24_State) _)) (tights_lows ((low_cL low_cHeld) _)))) shh_nil) ⟨rfl, rfl⟩
 refine xq ?_
 refine wh 1 ?_
 refine we ?_
 refine ng ?_
 refine xb ?_
 refine x_loop (fun d fr H => ∃ (x2257 : (Sl Held) × Int) (g2188 : Option Bool) (g2189 : Option Bool), fr = [.ptr 0 0, .any, .any, sl cHeld x2257.1, .int .i64 x2257.2, .any, .any, .any, .any, .any, .any, .any, .any, .any, .any, .any, junkB g2188, .any, .any, .any, .any, .any, .any, .any, .any, .any, .any, .any, .any, junkB g2189, .any, .any, .any, .any, .any, .any, .any, .any, .any, .any, .any, .any, .any, .any, .any, .any] ∧ H = [.cells ((cL cAffidavitref24_State) a0 ++ (cL cHeld) a1)] ∧ loopN (r24_Book_Held_B2257 a0) d x2257 = some r) (by kernel_rfl) (fun fr H ⟨x2257, g2188, g2189, e1, e2, hF⟩ => loop_no hF) (fun d2257 fr H ⟨x2257, g2188, g2189, e1, e2, hF⟩ => ?_) (VS.sm 70368744177638) ⟨(a1, 0), none, none, rfl, rfl, hF⟩
 subst e1 e2
 have hF := loop_in hF
 refine xs ?_
 refine xq ?_
 refine wh 7 ?_
 refine we ?_
 refine ng ?_
 refine ite_elim hF (fun hc1 hF => ?_) (fun hc1 hF => ?_)
 ·refine kT 16 hc1 ?_
  refine xT ?_
  refine xk ?_
  refine ng ?_
  refine xj (fun fr H => ∃ (p2289 : Sl Held), fr = [.ptr 0 0, .any, .any, sl cHeld p2289, .int .i64 x2257.2, .any, .any, .any, .any, .any, .any, .any, .any, .any, .any, .any, .bool true, .any, .any, .any, .any, .any, .any, .any, .any, .any, .any, .any, .any, .bool false, .any, .any, .any, .any, .any, .any, .any, .any, .any, .any, .any, .any, .any, .any, .any, .any] ∧ H = [.cells ((cL cAffidavitref24_State) a0 ++ (cL cHeld) a1)] ∧ r24_Book_Held_J7 (loopN (r24_Book_Held_B2257 a0) d2257) x2257 p2289 = some r) (fun fr H ⟨p2289, e1, e2, hF⟩ => ?_) (fun hJ7 => ?_)
  ·subst e1 e2
   refine xr ?_
   refine wh 3 ?_
   refine we ?_
   refine then_n ?_
   exact x_back (VS.sm 70368744177638) ⟨(p2289, iAdd .i64 x2257.2 1), (some true), (some false), rfl, rfl, hF⟩
  refine xb ?_
  refine xq ?_
  refine wh 1 ?_
  refine we ?_
  refine ng ?_
  refine xb ?_
  refine x_loop (fun d fr H => ∃ (x2312 : (Sl Held) × Int) (g2300 : Option Bool), fr = [.ptr 0 0, .any, .any, sl cHeld x2312.1, .int .i64 x2257.2, .int .i64 x2312.2, .any, .any, .any, .any, .any, .any, .any, .any, .any, .any, .bool true, .any, .any, .any, .any, .any, .any, .any, .any, .any, .any, .any, .any, junkB g2300, .any, .any, .any, .any, .any, .any, .any, .any, .any, .any, .any, .any, .any, .any, .any, .any] ∧ H = [.cells ((cL cAffidavitref24_State) a0 ++ (cL cHeld) a1)] ∧ loopN (r24_Book_Held_B2312 a0 (loopN (r24_Book_Held_B2257 a0) d2257) x2257) d x2312 = some r) (by kernel_rfl) (fun fr H ⟨x2312, g2300, e1, e2, hF⟩ => loop_no hF) (fun d2312 fr H ⟨x2312, g2300, e1, e2, hF⟩ => ?_) (VS.sm 70368207241158) ⟨(x2257.1, 0), g2189, rfl, rfl, hF⟩
  subst e1 e2
  have hF := loop_in hF
  refine xs ?_
  refine xq ?_
  refine wh 6 ?_
  refine bind_elim hF (fun y2314 hy2314 hF => uI cAffidavitref24_State 2 hy2314 len_cAffidavitref24_State ?_)
  refine wh 8 ?_
  refine uE cAffidavitref24_State 1 (t := 27) (v := sl cHeld y2314.L) 2 1 hy2314 len_cAffidavitref24_State ?_
  refine wh 11 ?_
  refine we ?_
  refine ng ?_
  refine ite_elim hF (fun hc2 hF => ?_) (fun hc2 hF => ?_)
  ·refine kT 29 hc2 ?_
   refine xT ?_
   refine xk ?_
   refine ng ?_
   refine xs ?_
   refine xb ?_
   refine xr ?_
   refine wh 6 ?_
   refine bind_elim hF (fun y2318 hy2318 hF => uI cAffidavitref24_State 2 hy2318 len_cAffidavitref24_State ?_)
   refine wh 8 ?_
   refine uE cAffidavitref24_State 1 (t := 27) (v := sl cHeld y2318.L) 2 1 hy2318 len_cAffidavitref24_State ?_
   refine wh 10 ?_
   refine bind_elim hF (fun y2319 hy2319 hF => uI cHeld 2 hy2319 len_cHeld ?_)
   refine uE cHeld 0 (t := 41) (v := .agg (cHeld y2319)) 2 2 hy2319 len_cHeld ?_
   refine bind_elim hF (fun y2320 hy2320 hF => uC (r24_put_ev hy2320) (lows_cons (low_sl low_cHeld) (lows_cons (low_agg (low_cHeld _)) rfl)) (low_sl low_cHeld) ?_)
   refine wh 14 ?_
   refine we ?_
   refine block_n ?_
   refine ng ?_
   refine xr ?_
   refine wh 3 ?_
   refine we ?_
   refine then_n ?_
   exact x_back (VS.sm 70368744112070) ⟨(y2320, iAdd .i64 x2312.2 1), (some true), rfl, rfl, hF⟩
  refine kF 29 hc2 ?_
  refine xF ?_
  refine xe ?_
  refine then_e ?_
  refine then_e ?_
  refine block_e ?_
  refine block_n ?_
  refine then_n ?_
  exact x_to hJ7 (VS.sm 70368207241190) ⟨x2312.1, rfl, rfl, hF⟩
 refine kF 16 hc1 ?_
 refine xF ?_
 refine xe ?_
 refine then_e ?_
 refine then_e ?_
 refine block_e ?_
 refine then_n ?_
 exact x_to hJ4 (VS.sm 70368207241207) ⟨x2257.1, g2189, rfl, rfl, hF⟩
def r24_Book_Add_J24 (a0 : Int) (a1 : Sl Held) (a2 : Sl Affidavitref24_State) (p1755 : Sl Held) : Option (Int × (Sl Affidavitref24_State)) :=
  if iGt (p1755.l.length : Int) 256 = true then some (11, a2) else (appL 32 (⟨false, true, []⟩ : Sl Affidavitref24_State) a2.l).bind fun y1756 => (appX 16 (⟨false, true, []⟩ : Sl Held) a1.l).bind fun y1757 => (appL 32 y1756 (⟨false, true, [(⟨a0, y1757⟩ : Affidavitref24_State)]⟩ : Sl Affidavitref24_State).l).bind fun y1758 => some (0, y1758.weak)
def r24_Book_Add_B1773 (a0 : Int) (a1 : Sl Held) (a2 : Sl Affidavitref24_State) (k1773 : ((Sl Held) × Int) → Option (Int × (Sl Affidavitref24_State))) (x1773 : (Sl Held) × Int) : Option (Int × (Sl Affidavitref24_State)) :=
  if iLt x1773.2 (a1.l.length : Int) = true then (idxL a1.l x1773.2).bind fun y1776 => (r24_put x1773.1 y1776).bind fun y1777 => k1773 (y1777, iAdd .i64 x1773.2 1) else r24_Book_Add_J24 a0 a1 a2 x1773.1
def r24_Book_Add_J23 (a0 : Int) (a1 : Sl Held) (a2 : Sl Affidavitref24_State) (a3 : Sl Held) : Option (Int × (Sl Affidavitref24_State)) :=
  (r24_Book_Held a2 a3).bind fun y1735 => loopN (r24_Book_Add_B1773 a0 a1 a2) FUEL (y1735, 0)
def r24_Book_Add_J42 (k2154 : Int → Option (Int × (Sl Affidavitref24_State))) (x2154 : Int) : Option (Int × (Sl Affidavitref24_State)) :=
  k2154 (iAdd .i64 x2154 1)
def r24_Book_Add_J45 (k2309 : Int → Option (Int × (Sl Affidavitref24_State))) (x2309 : Int) : Option (Int × (Sl Affidavitref24_State)) :=
  k2309 (iAdd .i64 x2309 1)
def r24_Book_Add_B2309 (a1 : Sl Held) (a2 : Sl Affidavitref24_State) (k2154 : Int → Option (Int × (Sl Affidavitref24_State))) (x2154 : Int) (k2309 : Int → Option (Int × (Sl Affidavitref24_State))) (x2309 : Int) : Option (Int × (Sl Affidavitref24_State)) :=
  if iLt x2309 (a2.l.length : Int) = true then (idxL a2.l x2309).bind fun y2326 => (idxL a1.l x2154).bind fun y2327 => (r24_in y2326.L y2327.Number).bind fun y2328 => if y2328.2 = true then (idxL a1.l x2154).bind fun y2330 => if (y2328.1 != y2330.Size) = true then some (2, a2) else r24_Book_Add_J45 k2309 x2309 else r24_Book_Add_J45 k2309 x2309 else r24_Book_Add_J42 k2154 x2154
def r24_Book_Add_B2154 (a0 : Int) (a1 : Sl Held) (a2 : Sl Affidavitref24_State) (a3 : Sl Held) (k2154 : Int → Option (Int × (Sl Affidavitref24_State))) (x2154 : Int) : Option (Int × (Sl Affidavitref24_State)) :=
  if iLt x2154 (a1.l.length : Int) = true then (idxL a1.l x2154).bind fun y2249 => (r24_in a3 y2249.Number).bind fun y2250 => if y2250.2 = true then some (2, a2) else loopN (r24_Book_Add_B2309 a1 a2 k2154 x2154) FUEL 0 else r24_Book_Add_J23 a0 a1 a2 a3
def r24_Book_Add_J1 (a0 : Int) (a1 : Sl Held) (a2 : Sl Affidavitref24_State) (a3 : Sl Held) : Option (Int × (Sl Affidavitref24_State)) :=
  loopN (r24_Book_Add_B2154 a0 a1 a2 a3) FUEL 0
def r24_Book_Add (a0 : Int) (a1 : Sl Held) (a2 : Sl Affidavitref24_State) (a3 : Sl Held) : Option (Int × (Sl Affidavitref24_State)) :=
  if iLt a0 1 = true then some (2, a2) else if iGt a0 512 = true then some (2, a2) else if iGt (a2.l.length : Int) 0 = true then (idxL a2.l (iSub .i64 (a2.l.length : Int) 1)).bind fun y2340 => if iLe a0 y2340.N = true then some (2, a2) else (r24_Rise a1).bind fun y2341 => if y2341 = true then r24_Book_Add_J1 a0 a1 a2 a3 else some (2, a2) else (r24_Rise a1).bind fun y2342 => if y2342 = true then r24_Book_Add_J1 a0 a1 a2 a3 else some (2, a2)
theorem r24_Book_Add_ev {a0 : Int} {a1 : Sl Held} {a2 : Sl Affidavitref24_State} {a3 : Sl Held} {r : Int × (Sl Affidavitref24_State)} (hF : r24_Book_Add a0 a1 a2 a3 = some r) : EvCall Try.prog T G0 25 [.ptr 0 0, .int .i64 a0, sl cHeld a1] [.cells ((cL cAffidavitref24_State) a2 ++ (cL cHeld) a3)] (fun v H' => v = .int .i64 r.1 ∧ H' = [.cells ((cL cAffidavitref24_State) r.2 ++ (cL cHeld) a3)]) := by
 refine xc Try.func25 ?_
 refine xq ?_
 refine wh 1 ?_
 refine we ?_
 refine ng ?_
 refine xj (fun fr H => ∃ (g1166 : Option Bool) (g1167 : Option Bool) (g1168 : Option Bool) (g1169 : Option Bool) (g1170 : Option Bool) (g1171 : Option Bool), fr = [.ptr 0 0, .int .i64 a0, sl cHeld a1, .any, .any, .any, .any, .any, .any, .any, .any, .any, .any, .any, .any, .any, .bool (iLt a0 1), .bool false, .any, .bool (iGt a0 512), .bool (iGt a0 512), .bool false, .any, .any, .any, .any, .any, .bool (iGt (a2.l.length : Int) 0), junkB g1166, .any, .any, .any, .any, .any, .any, .any, .any, .any, .any, .any, .any, .any, .any, junkB g1167, junkB g1168, junkB g1169, .bool false, .any, junkB g1170, junkB g1171, .bool false, .any, .any, .any, .any, .any, .any, .any, .any, .any, .any, .any, .any, .any, .any, .any, .any, .any, .any, .any, .any, .any, .any, .any, .any, .any, .any, .any, .any, .any, .any, .any, .any, .any, .any, .any, .any, .any, .any, .any, .any, .any, .any, .any, .any, .any, .any, .any, .any, .any, .any, .any, .any, .any, .any, .any, .any, .any, .any, .any, .any, .any, .any, .any, .any, .any, .any, .any, .any, .any, .any, .any, .any, .any, .any, .any, .any, .any, .any, .any, .any, .any, .any, .any, .any, .any, .any, .any, .any, .any] ∧ H = [.cells ((cL cAffidavitref24_State) a2 ++ (cL cHeld) a3)] ∧ r24_Book_Add_J1 a0 a1 a2 a3 = some r) (fun fr H ⟨g1166, g1167, g1168, g1169, g1170, g1171, e1, e2, hF⟩ => ?_) (fun hJ1 => ?_)
 ·subst e1 e2
  refine xj (fun fr H => ∃ (g1725 : Option Bool) (g1726 : Option Bool) (g1727 : Option Bool) (g1728 : Option Bool) (g1729 : Option Bool) (g1730 : Option Bool) (g1731 : Option Bool) (g1732 : Option Bool) (g1733 : Option Bool) (g1734 : Option Bool), fr = [.ptr 0 0, .int .i64 a0, sl cHeld a1, .any, .any, .any, .any, .any, .any, junkB g1725, .any, .any, junkB g1726, .any, .any, .any, .bool (iLt a0 1), .bool false, .any, .bool (iGt a0 512), .bool (iGt a0 512), .bool false, .any, .any, .any, .any, .any, .bool (iGt (a2.l.length : Int) 0), junkB g1166, .any, .any, .any, .any, .any, .any, .any, .any, .any, .any, .any, .any, .any, .any, junkB g1167, junkB g1168, junkB g1169, .bool false, .any, junkB g1170, junkB g1171, .bool false, .any, .any, .any, .bool false, .any, .any, .any, .any, .any, .any, .any, .any, .any, .any, .any, .any, .any, .any, junkB g1727, junkB g1728, .any, .any, .any, .any, .any, .any, junkB g1729, .any, .any, .any, .any, .any, .any, .any, .any, .any, .any, .any, .any, .any, .any, .any, .any, .any, .any, junkB g1730, junkB g1731, junkB g1732, .any, .any, .any, .any, .any, .any, junkB g1733, junkB g1734, .any, .any, .any, .any, .any, .any, .any, .any, .any, .any, .any, .any, .any, .any, .any, .any, .any, .any, .any, .any, .any, .any, .any, .any, .any, .any, .any, .any, .any, .any, .any, .any, .any] ∧ H = [.cells ((cL cAffidavitref24_State) a2 ++ (cL cHeld) a3)] ∧ r24_Book_Add_J23 a0 a1 a2 a3 = some r) (fun fr H ⟨g1725, g1726, g1727, g1728, g1729, g1730, g1731, g1732, g1733, g1734, e1, e2, hF⟩ => ?_) (fun hJ23 => ?_)
  ·subst e1 e2
   refine xq ?_
   refine wh 1 ?_
   refine bind_elim hF (fun y1735 hy1735 hF => uOs [0] [0] (v := sl cHeld y1735) [.cells ((cL cAffidavitref24_State) a2 ++ (cL cHeld) a3)] (r24_Book_Held_ev hy1735) (by kernel_rfl) (pl (b' := .cells ((cL cAffidavitref24_State) a2 ++ (cL cHeld) a3)) (by kernel_rfl) (sb_cells (by kernel_rfl) (by kernel_rfl) (tights_app (tights_lows ((low_cL low_cAffidavitref24_State) _)) (tights_lows ((low_cL low_cHeld) _)))) pl_nil) (tight_sl low_cHeld) (sbs (sb_cells (by kernel_rfl) (by kernel_rfl) (tights_app (tights_lows ((low_cL low_cAffidavitref24_State) _)) (tights_lows ((low_cL low_cHeld) _)))) sbs_nil) ?_)
   refine wh 3 ?_
   refine we ?_
   refine ng ?_
   refine xj (fun fr H => ∃ (p1755 : Sl Held), fr = [.ptr 0 0, .int .i64 a0, sl cHeld a1, .any, .any, .any, .any, .any, .any, junkB g1725, .any, .any, junkB g1726, sl cHeld p1755, .any, .any, .bool (iLt a0 1), .bool false, .any, .bool (iGt a0 512), .bool (iGt a0 512), .bool false, .any, .any, .any, .any, .any, .bool (iGt (a2.l.length : Int) 0), junkB g1166, .any, .any, .any, .any, .any, .any, .any, .any, .any, .any, .any, .any, .any, .any, junkB g1167, junkB g1168, junkB g1169, .bool false, .any, junkB g1170, junkB g1171, .bool false, .any, .any, .any, .bool false, .any, .any, .any, .any, .any, .any, .any, .any, .any, .any, .any, .any, .any, .any, junkB g1727, junkB g1728, .any, .any, .any, .any, .any, .any, junkB g1729, .any, .any, .any, .any, .any, .any, .any, .any, .any, .any, .any, .any, .any, .any, .any, .any, .any, .any, junkB g1730, junkB g1731, junkB g1732, .any, .any, .any, .any, .any, .any, junkB g1733, junkB g1734, .any, .any, .any, .any, .any, .bool false, .any, .any, .any, .any, .any, .any, .any, .any, .any, .any, .any, .any, .any, .any, .any, .any, .any, .any, .any, .any, .any, .any, .any, .any, .any, .any, .any] ∧ H = [.cells ((cL cAffidavitref24_State) a2 ++ (cL cHeld) a3)] ∧ r24_Book_Add_J24 a0 a1 a2 p1755 = some r) (fun fr H ⟨p1755, e1, e2, hF⟩ => ?_) (fun hJ24 => ?_)
   ·subst e1 e2
    refine xs ?_
    refine xq ?_
    refine wh 3 ?_
    refine we ?_
    refine ng ?_
    refine ite_elim hF (fun hc1 hF => ?_) (fun hc1 hF => ?_)
    ·refine kT 123 hc1 ?_
     refine xT ?_
     refine xq ?_
     refine wh 1 ?_
     refine we ?_
     refine ng ?_
     refine xt ?_
     refine then_r ?_
     have e := Option.some.inj hF
     subst e
     exact fS [0] (.inl rfl) rfl (shh (b0 := .cells ((cL cAffidavitref24_State) a2 ++ (cL cHeld) a3)) (by kernel_rfl) (shb_cells (by kernel_rfl) (by kernel_rfl) (tights_app (tights_lows ((low_cL low_cAffidavitref24_State) _)) (tights_lows ((low_cL low_cHeld) _)))) shh_nil) ⟨rfl, rfl⟩
    refine kF 123 hc1 ?_
    refine xF ?_
    refine xk ?_
    refine ng ?_
    refine xq ?_
    refine wh 1 ?_
    refine w_frz (v := sl cAffidavitref24_State (⟨false, true, []⟩ : Sl Affidavitref24_State)) (by kernel_rfl) ?_
    refine wh 6 ?_
    refine bind_elim hF (fun y1756 hy1756 hF => w_app0 cAffidavitref24_State (e := 39) (sz := 2) (x := (⟨false, true, []⟩ : Sl Affidavitref24_State)) (ys := a2.l) hy1756 (by kernel_rfl) (by kernel_rfl) (by decide) len_cAffidavitref24_State (gives_sl (x := a2) (by kernel_rfl) len_cAffidavitref24_State) ?_)
    refine wr 8 [.cells ((cL cAffidavitref24_State) a2 ++ (cL cHeld) a3), .room 1 (!(a2.l.length == 0))] ?_
    refine w_frz (v := sl cHeld (⟨false, true, []⟩ : Sl Held)) (by kernel_rfl) ?_
    refine wh 10 ?_
    refine bind_elim hF (fun y1757 hy1757 hF => w_appL cHeld (e := 41) (sz := 2) (x := (⟨false, true, []⟩ : Sl Held)) (ys := a1.l) hy1757 (by kernel_rfl) (by kernel_rfl) (by decide) len_cHeld (gives_sl (x := a1) (by kernel_rfl) len_cHeld) ?_)
    refine wh 12 ?_
    refine w_frz (v := sl cAffidavitref24_State (⟨false, true, [(⟨a0, y1757⟩ : Affidavitref24_State)]⟩ : Sl Affidavitref24_State)) (by kernel_rfl) ?_
    refine bind_elim hF (fun y1758 hy1758 hF => w_app cAffidavitref24_State (e := 39) (sz := 2) (l0 := 1) (real := (!(a2.l.length == 0))) (ver := 1) (x := y1756) (ys := (⟨false, true, [(⟨a0, y1757⟩ : Affidavitref24_State)]⟩ : Sl Affidavitref24_State).l) hy1758 (by kernel_rfl) (by decide) (gives_sl (x := (⟨false, true, [(⟨a0, y1757⟩ : Affidavitref24_State)]⟩ : Sl Affidavitref24_State)) (by kernel_rfl) len_cAffidavitref24_State) (room_at (by kernel_rfl)) ?_)
    refine wr 17 [.cells ([ownv cAffidavitref24_State 1 (1 + 1) 2 y1758] ++ (cL cHeld) a3), .room (1 + 1) ((!(a2.l.length == 0)) || !((⟨false, true, [(⟨a0, y1757⟩ : Affidavitref24_State)]⟩ : Sl Affidavitref24_State).l.length == 0))] ?_
    refine we ?_
    refine ng ?_
    refine xq ?_
    refine wh 1 ?_
    refine we ?_
    refine ng ?_
    refine xt ?_
    have e := Option.some.inj hF
    subst e
    exact fS [0] (.inl rfl) rfl (shh (b0 := .cells ([ownv cAffidavitref24_State 1 (1 + 1) 2 y1758] ++ (cL cHeld) a3)) (by kernel_rfl) (shb_cellsW (by kernel_rfl) (by kernel_rfl) (by kernel_rfl) (tights_app (tights_lows ((low_cL low_cAffidavitref24_State) _)) (tights_lows ((low_cL low_cHeld) _)))) shh_nil) ⟨rfl, rfl⟩
   refine xq ?_
   refine wh 1 ?_
   refine we ?_
   refine ng ?_
   refine xb ?_
   refine x_loop (fun d fr H => ∃ (x1773 : (Sl Held) × Int) (g1765 : Option Bool), fr = [.ptr 0 0, .int .i64 a0, sl cHeld a1, .any, .any, .any, .any, .any, .any, junkB g1725, .any, .any, junkB g1726, sl cHeld x1773.1, .int .i64 x1773.2, .any, .bool (iLt a0 1), .bool false, .any, .bool (iGt a0 512), .bool (iGt a0 512), .bool false, .any, .any, .any, .any, .any, .bool (iGt (a2.l.length : Int) 0), junkB g1166, .any, .any, .any, .any, .any, .any, .any, .any, .any, .any, .any, .any, .any, .any, junkB g1167, junkB g1168, junkB g1169, .bool false, .any, junkB g1170, junkB g1171, .bool false, .any, .any, .any, .bool false, .any, .any, .any, .any, .any, .any, .any, .any, .any, .any, .any, .any, .any, .any, junkB g1727, junkB g1728, .any, .any, .any, .any, .any, .any, junkB g1729, .any, .any, .any, .any, .any, .any, .any, .any, .any, .any, .any, .any, .any, .any, .any, .any, .any, .any, junkB g1730, junkB g1731, junkB g1732, .any, .any, .any, .any, .any, .any, junkB g1733, junkB g1734, .any, .any, .any, .any, .any, junkB g1765, .any, .any, .any, .any, .any, .any, .any, .any, .any, .any, .any, .any, .any, .any, .any, .any, .any, .any, .any, .any, .any, .any, .any, .any, .any, .any, .any] ∧ H = [.cells ((cL cAffidavitref24_State) a2 ++ (cL cHeld) a3)] ∧ loopN (r24_Book_Add_B1773 a0 a1 a2) d x1773 = some r) (by kernel_rfl) (fun fr H ⟨x1773, g1765, e1, e2, hF⟩ => loop_no hF) (fun d1773 fr H ⟨x1773, g1765, e1, e2, hF⟩ => ?_) (VS.sm 1393796574785914891433585884134114366623224) ⟨(y1735, 0), none, rfl, rfl, hF⟩
   subst e1 e2
   have hF := loop_in hF
   refine xs ?_
   refine xq ?_
   refine wh 4 ?_
   refine we ?_
   refine ng ?_
   refine ite_elim hF (fun hc2 hF => ?_) (fun hc2 hF => ?_)
   ·refine kT 112 hc2 ?_
    refine xT ?_
    refine xk ?_
    refine ng ?_
    refine xs ?_
    refine xb ?_
    refine xr ?_
    refine wh 3 ?_
    refine bind_elim hF (fun y1776 hy1776 hF => uI cHeld 2 hy1776 len_cHeld ?_)
    refine uE cHeld 0 (t := 41) (v := .agg (cHeld y1776)) 2 2 hy1776 len_cHeld ?_
    refine bind_elim hF (fun y1777 hy1777 hF => uC (r24_put_ev hy1777) (lows_cons (low_sl low_cHeld) (lows_cons (low_agg (low_cHeld _)) rfl)) (low_sl low_cHeld) ?_)
    refine wh 7 ?_
    refine we ?_
    refine block_n ?_
    refine ng ?_
    refine xr ?_
    refine wh 3 ?_
    refine we ?_
    refine then_n ?_
    exact x_back (VS.sm 1393796574785914891433585884134114366623224) ⟨(y1777, iAdd .i64 x1773.2 1), (some true), rfl, rfl, hF⟩
   refine kF 112 hc2 ?_
   refine xF ?_
   refine xe ?_
   refine then_e ?_
   refine then_e ?_
   refine block_e ?_
   refine then_n ?_
   exact x_to hJ24 (VS.sm 1393796569593618032898758255603618037419512) ⟨x1773.1, rfl, rfl, hF⟩
  refine xq ?_
  refine wh 1 ?_
  refine we ?_
  refine ng ?_
  refine xb ?_
  refine x_loop (fun d fr H => ∃ (x2154 : Int) (g1955 : Option Bool) (g1956 : Option Bool) (g1957 : Option Bool) (g1958 : Option Bool) (g1959 : Option Bool) (g1960 : Option Bool) (g1961 : Option Bool) (g1962 : Option Bool) (g1963 : Option Bool) (g1964 : Option Bool) (g1965 : Option Bool), fr = [.ptr 0 0, .int .i64 a0, sl cHeld a1, .any, .any, .any, .any, .int .i64 x2154, .any, junkB g1955, .any, .any, junkB g1956, .any, .any, .any, .bool (iLt a0 1), .bool false, .any, .bool (iGt a0 512), .bool (iGt a0 512), .bool false, .any, .any, .any, .any, .any, .bool (iGt (a2.l.length : Int) 0), junkB g1166, .any, .any, .any, .any, .any, .any, .any, .any, .any, .any, .any, .any, .any, .any, junkB g1167, junkB g1168, junkB g1169, .bool false, .any, junkB g1170, junkB g1171, .bool false, .any, .any, .any, junkB g1957, .any, .any, .any, .any, .any, .any, .any, .any, .any, .any, .any, .any, .any, .any, junkB g1958, junkB g1959, .any, .any, .any, .any, .any, .any, junkB g1960, .any, .any, .any, .any, .any, .any, .any, .any, .any, .any, .any, .any, .any, .any, .any, .any, .any, .any, junkB g1961, junkB g1962, junkB g1963, .any, .any, .any, .any, .any, .any, junkB g1964, junkB g1965, .any, .any, .any, .any, .any, .any, .any, .any, .any, .any, .any, .any, .any, .any, .any, .any, .any, .any, .any, .any, .any, .any, .any, .any, .any, .any, .any, .any, .any, .any, .any, .any, .any] ∧ H = [.cells ((cL cAffidavitref24_State) a2 ++ (cL cHeld) a3)] ∧ loopN (r24_Book_Add_B2154 a0 a1 a2 a3) d x2154 = some r) (by kernel_rfl) (fun fr H ⟨x2154, g1955, g1956, g1957, g1958, g1959, g1960, g1961, g1962, g1963, g1964, g1965, e1, e2, hF⟩ => loop_no hF) (fun d2154 fr H ⟨x2154, g1955, g1956, g1957, g1958, g1959, g1960, g1961, g1962, g1963, g1964, g1965, e1, e2, hF⟩ => ?_) (VS.sm 1393796574908163946345982389938255955296120) ⟨0, none, none, none, none, none, none, none, none, none, none, none, rfl, rfl, hF⟩
  subst e1 e2
  have hF := loop_in hF
  refine xs ?_
  refine xq ?_
  refine wh 4 ?_
  refine we ?_
  refine ng ?_
  refine ite_elim hF (fun hc3 hF => ?_) (fun hc3 hF => ?_)
  ·refine kT 54 hc3 ?_
   refine xT ?_
   refine xk ?_
   refine ng ?_
   refine xj (fun fr H => ∃ (g2239 : Option Bool) (g2240 : Option Bool) (g2241 : Option Bool) (g2242 : Option Bool) (g2243 : Option Bool) (g2244 : Option Bool) (g2245 : Option Bool) (g2246 : Option Bool), fr = [.ptr 0 0, .int .i64 a0, sl cHeld a1, .any, .any, .any, .any, .int .i64 x2154, .any, junkB g2239, .any, .any, junkB g2240, .any, .any, .any, .bool (iLt a0 1), .bool false, .any, .bool (iGt a0 512), .bool (iGt a0 512), .bool false, .any, .any, .any, .any, .any, .bool (iGt (a2.l.length : Int) 0), junkB g1166, .any, .any, .any, .any, .any, .any, .any, .any, .any, .any, .any, .any, .any, .any, junkB g1167, junkB g1168, junkB g1169, .bool false, .any, junkB g1170, junkB g1171, .bool false, .any, .any, .any, .bool true, .any, .any, .any, .any, .any, .any, .any, .any, .any, .any, .any, .any, .any, .any, junkB g2241, .bool false, .any, .any, .any, .any, .any, .any, .bool false, .any, .any, .any, .any, .any, .any, .any, .any, .any, .any, .any, .any, .any, .any, .any, .any, .any, .any, junkB g2242, junkB g2243, junkB g2244, .any, .any, .any, .any, .any, .any, junkB g2245, junkB g2246, .any, .any, .any, .any, .any, .any, .any, .any, .any, .any, .any, .any, .any, .any, .any, .any, .any, .any, .any, .any, .any, .any, .any, .any, .any, .any, .any, .any, .any, .any, .any, .any, .any] ∧ H = [.cells ((cL cAffidavitref24_State) a2 ++ (cL cHeld) a3)] ∧ r24_Book_Add_J42 (loopN (r24_Book_Add_B2154 a0 a1 a2 a3) d2154) x2154 = some r) (fun fr H ⟨g2239, g2240, g2241, g2242, g2243, g2244, g2245, g2246, e1, e2, hF⟩ => ?_) (fun hJ42 => ?_)
   ·subst e1 e2
    refine xr ?_
    refine wh 3 ?_
    refine we ?_
    refine then_n ?_
    exact x_back (VS.sm 1393796574785914891585882221221058934271352) ⟨iAdd .i64 x2154 1, g2239, g2240, (some true), g2241, (some false), (some false), g2242, g2243, g2244, g2245, g2246, rfl, rfl, hF⟩
   refine xb ?_
   refine xs ?_
   refine xd 78149237124310777980059870029873665 call_ends callMono ?_
   refine wp 6 ?_
   refine bind_elim hF (fun y2249 hy2249 hF => uI cHeld 2 hy2249 len_cHeld ?_)
   refine wp 8 ?_
   refine uE cHeld 0 (t := 3) (v := .int .i64 y2249.Number) 2 1 hy2249 len_cHeld ?_
   refine bind_elim hF (fun y2250 hy2250 hF => uC (r24_in_ev hy2250) (lows_cons (low_sl low_cHeld) (lows_cons rfl rfl)) (low_tup (lows_cons rfl (lows_cons rfl rfl))) ?_)
   refine wp 15 ?_
   refine we ?_
   refine de ?_
   refine ng ?_
   refine xs ?_
   refine xq ?_
   refine wh 1 ?_
   refine we ?_
   refine ng ?_
   refine ite_elim hF (fun hc4 hF => ?_) (fun hc4 hF => ?_)
   ·refine kT 70 hc4 ?_
    refine xT ?_
    refine xq ?_
    refine wh 1 ?_
    refine we ?_
    refine ng ?_
    refine xt ?_
    refine then_r ?_
    refine block_r ?_
    refine then_r ?_
    refine then_r ?_
    refine block_r ?_
    refine then_r ?_
    have e := Option.some.inj hF
    subst e
    exact fS [0] (.inl rfl) rfl (shh (b0 := .cells ((cL cAffidavitref24_State) a2 ++ (cL cHeld) a3)) (by kernel_rfl) (shb_cells (by kernel_rfl) (by kernel_rfl) (tights_app (tights_lows ((low_cL low_cAffidavitref24_State) _)) (tights_lows ((low_cL low_cHeld) _)))) shh_nil) ⟨rfl, rfl⟩
   refine kF 70 hc4 ?_
   refine xF ?_
   refine xk ?_
   refine ng ?_
   refine xq ?_
   refine wh 1 ?_
   refine we ?_
   refine ng ?_
   refine xb ?_
   refine x_loop (fun d fr H => ∃ (x2309 : Int) (g2273 : Option Bool) (g2274 : Option Bool) (g2275 : Option Bool) (g2276 : Option Bool) (g2277 : Option Bool) (g2278 : Option Bool) (g2279 : Option Bool), fr = [.ptr 0 0, .int .i64 a0, sl cHeld a1, .any, .any, .any, .any, .int .i64 x2154, .any, .bool y2250.2, .int .i64 x2309, .any, junkB g2273, .any, .any, .any, .bool (iLt a0 1), .bool false, .any, .bool (iGt a0 512), .bool (iGt a0 512), .bool false, .any, .any, .any, .any, .any, .bool (iGt (a2.l.length : Int) 0), junkB g1166, .any, .any, .any, .any, .any, .any, .any, .any, .any, .any, .any, .any, .any, .any, junkB g1167, junkB g1168, junkB g1169, .bool false, .any, junkB g1170, junkB g1171, .bool false, .any, .any, .any, .bool true, .any, .any, .any, .any, .any, .any, .any, .any, .any, .any, .any, .any, .any, .any, .bool y2250.2, .bool false, .any, .any, .any, .any, .any, .any, junkB g2274, .any, .any, .any, .any, .any, .any, .any, .any, .any, .any, .any, .any, .any, .any, .any, .any, .any, .any, junkB g2275, junkB g2276, junkB g2277, .any, .any, .any, .any, .any, .any, junkB g2278, junkB g2279, .any, .any, .any, .any, .any, .any, .any, .any, .any, .any, .any, .any, .any, .any, .any, .any, .any, .any, .any, .any, .any, .any, .any, .any, .any, .any, .any, .any, .any, .any, .any, .any, .any] ∧ H = [.cells ((cL cAffidavitref24_State) a2 ++ (cL cHeld) a3)] ∧ loopN (r24_Book_Add_B2309 a1 a2 (loopN (r24_Book_Add_B2154 a0 a1 a2 a3) d2154) x2154) d x2309 = some r) (by kernel_rfl) (fun fr H ⟨x2309, g2273, g2274, g2275, g2276, g2277, g2278, g2279, e1, e2, hF⟩ => loop_no hF) (fun d2309 fr H ⟨x2309, g2273, g2274, g2275, g2276, g2277, g2278, g2279, e1, e2, hF⟩ => ?_) (VS.sm 1393796574785914891433585884134114366646648) ⟨0, g1956, g1960, g1961, g1962, g1963, g1964, g1965, rfl, rfl, hF⟩
   subst e1 e2
   have hF := loop_in hF
   refine xs ?_
   refine xq ?_
   refine wh 7 ?_
   refine we ?_
   refine ng ?_
   refine ite_elim hF (fun hc5 hF => ?_) (fun hc5 hF => ?_)
   ·refine kT 77 hc5 ?_
    refine xT ?_
    refine xk ?_
    refine ng ?_
    refine xj (fun fr H => ∃ (g2318 : Option Bool) (g2319 : Option Bool) (g2320 : Option Bool) (g2321 : Option Bool) (g2322 : Option Bool), fr = [.ptr 0 0, .int .i64 a0, sl cHeld a1, .any, .any, .any, .any, .int .i64 x2154, .any, .bool y2250.2, .int .i64 x2309, .any, junkB g2318, .any, .any, .any, .bool (iLt a0 1), .bool false, .any, .bool (iGt a0 512), .bool (iGt a0 512), .bool false, .any, .any, .any, .any, .any, .bool (iGt (a2.l.length : Int) 0), junkB g1166, .any, .any, .any, .any, .any, .any, .any, .any, .any, .any, .any, .any, .any, .any, junkB g1167, junkB g1168, junkB g1169, .bool false, .any, junkB g1170, junkB g1171, .bool false, .any, .any, .any, .bool true, .any, .any, .any, .any, .any, .any, .any, .any, .any, .any, .any, .any, .any, .any, .bool y2250.2, .bool false, .any, .any, .any, .any, .any, .any, .bool true, .any, .any, .any, .any, .any, .any, .any, .any, .any, .any, .any, .any, .any, .any, .any, .any, .any, .any, junkB g2319, junkB g2320, junkB g2321, .any, .any, .any, .any, .any, .any, junkB g2322, .bool false, .any, .any, .any, .any, .any, .any, .any, .any, .any, .any, .any, .any, .any, .any, .any, .any, .any, .any, .any, .any, .any, .any, .any, .any, .any, .any, .any, .any, .any, .any, .any, .any, .any] ∧ H = [.cells ((cL cAffidavitref24_State) a2 ++ (cL cHeld) a3)] ∧ r24_Book_Add_J45 (loopN (r24_Book_Add_B2309 a1 a2 (loopN (r24_Book_Add_B2154 a0 a1 a2 a3) d2154) x2154) d2309) x2309 = some r) (fun fr H ⟨g2318, g2319, g2320, g2321, g2322, e1, e2, hF⟩ => ?_) (fun hJ45 => ?_)
    ·subst e1 e2
     refine xr ?_
     refine wh 3 ?_
     refine we ?_
     refine then_n ?_
     exact x_back (VS.sm 1393796574867044529999308293281732018628984) ⟨iAdd .i64 x2309 1, g2318, (some true), g2319, g2320, g2321, g2322, (some false), rfl, rfl, hF⟩
    refine xb ?_
    refine xs ?_
    refine xd 425201214061343713638919476061854883920413185 call_ends callMono ?_
    refine wp 5 ?_
    refine bind_elim hF (fun y2326 hy2326 hF => uI cAffidavitref24_State 2 hy2326 len_cAffidavitref24_State ?_)
    refine wp 7 ?_
    refine uE cAffidavitref24_State 1 (t := 27) (v := sl cHeld y2326.L) 2 1 hy2326 len_cAffidavitref24_State ?_
    refine wp 10 ?_
    refine bind_elim hF (fun y2327 hy2327 hF => uI cHeld 2 hy2327 len_cHeld ?_)
    refine wp 12 ?_
    refine uE cHeld 0 (t := 3) (v := .int .i64 y2327.Number) 2 1 hy2327 len_cHeld ?_
    refine bind_elim hF (fun y2328 hy2328 hF => uC (r24_in_ev hy2328) (lows_cons (low_sl low_cHeld) (lows_cons rfl rfl)) (low_tup (lows_cons rfl (lows_cons rfl rfl))) ?_)
    refine wp 19 ?_
    refine we ?_
    refine de ?_
    refine ng ?_
    refine xq ?_
    refine wh 2 ?_
    refine ite_elim hF (fun hc6 hF => ?_) (fun hc6 hF => ?_)
    ·refine wT 98 hc6 ?_
     refine wh 5 ?_
     refine bind_elim hF (fun y2330 hy2330 hF => uI cHeld 2 hy2330 len_cHeld ?_)
     refine wh 7 ?_
     refine uE cHeld 1 (t := 3) (v := .int .i64 y2330.Size) 2 1 hy2330 len_cHeld ?_
     refine wh 10 ?_
     refine we ?_
     refine ng ?_
     refine ite_elim hF (fun hc7 hF => ?_) (fun hc7 hF => ?_)
     ·refine kT 106 hc7 ?_
      refine xT ?_
      refine xq ?_
      refine wh 1 ?_
      refine we ?_
      refine ng ?_
      refine xt ?_
      refine block_r ?_
      refine then_r ?_
      refine then_r ?_
      refine block_r ?_
      refine block_r ?_
      refine then_r ?_
      refine then_r ?_
      refine block_r ?_
      refine then_r ?_
      have e := Option.some.inj hF
      subst e
      exact fS [0] (.inl rfl) rfl (shh (b0 := .cells ((cL cAffidavitref24_State) a2 ++ (cL cHeld) a3)) (by kernel_rfl) (shb_cells (by kernel_rfl) (by kernel_rfl) (tights_app (tights_lows ((low_cL low_cAffidavitref24_State) _)) (tights_lows ((low_cL low_cHeld) _)))) shh_nil) ⟨rfl, rfl⟩
     refine kF 106 hc7 ?_
     refine xF ?_
     refine xk ?_
     refine block_n ?_
     refine then_n ?_
     exact x_to hJ45 (VS.sm 1393796574827034307778489075345163676875128) ⟨(some y2328.2), (some y2328.2), (some y2328.2), (some true), (some (y2328.1 != y2330.Size)), rfl, rfl, hF⟩
    refine wF 98 hc6 ?_
    refine wh 10 ?_
    refine we ?_
    refine ng ?_
    refine xF ?_
    refine xk ?_
    refine block_n ?_
    refine then_n ?_
    exact x_to hJ45 (VS.sm 1393796574827034307778489075345163676875128) ⟨(some y2328.2), (some y2328.2), (some y2328.2), (some false), none, rfl, rfl, hF⟩
   refine kF 77 hc5 ?_
   refine xF ?_
   refine xe ?_
   refine then_e ?_
   refine then_e ?_
   refine block_e ?_
   refine block_n ?_
   refine then_n ?_
   exact x_to hJ42 (VS.sm 1393796574785914891434176179944473072299896) ⟨(some y2250.2), g2273, (some y2250.2), g2275, g2276, g2277, g2278, g2279, rfl, rfl, hF⟩
  refine kF 54 hc3 ?_
  refine xF ?_
  refine xe ?_
  refine then_e ?_
  refine then_e ?_
  refine block_e ?_
  refine then_n ?_
  exact x_to hJ23 (VS.sm 1393796574785914891433585884134114366647800) ⟨g1955, g1956, g1958, g1959, g1960, g1961, g1962, g1963, g1964, g1965, rfl, rfl, hF⟩
 refine xs ?_
 refine xd 0 call_ends callMono ?_
 refine wp 3 ?_
 refine ite_elim hF (fun hc8 hF => ?_) (fun hc8 hF => ?_)
 ·refine wT 17 hc8 ?_
  refine wp 36 ?_
  refine we ?_
  refine de ?_
  refine ng ?_
  refine xT ?_
  refine xq ?_
  refine wh 1 ?_
  refine we ?_
  refine ng ?_
  refine xt ?_
  refine then_r ?_
  have e := Option.some.inj hF
  subst e
  exact fS [0] (.inl rfl) rfl (shh (b0 := .cells ((cL cAffidavitref24_State) a2 ++ (cL cHeld) a3)) (by kernel_rfl) (shb_cells (by kernel_rfl) (by kernel_rfl) (tights_app (tights_lows ((low_cL low_cAffidavitref24_State) _)) (tights_lows ((low_cL low_cHeld) _)))) shh_nil) ⟨rfl, rfl⟩
 refine wF 17 hc8 ?_
 refine wp 7 ?_
 refine ite_elim hF (fun hc9 hF => ?_) (fun hc9 hF => ?_)
 ·refine wT 21 hc9 ?_
  refine wp 36 ?_
  refine we ?_
  refine de ?_
  refine ng ?_
  refine xT ?_
  refine xq ?_
  refine wh 1 ?_
  refine we ?_
  refine ng ?_
  refine xt ?_
  refine then_r ?_
  have e := Option.some.inj hF
  subst e
  exact fS [0] (.inl rfl) rfl (shh (b0 := .cells ((cL cAffidavitref24_State) a2 ++ (cL cHeld) a3)) (by kernel_rfl) (shb_cells (by kernel_rfl) (by kernel_rfl) (tights_app (tights_lows ((low_cL low_cAffidavitref24_State) _)) (tights_lows ((low_cL low_cHeld) _)))) shh_nil) ⟨rfl, rfl⟩
 refine wF 21 hc9 ?_
 refine wp 14 ?_
 refine ite_elim hF (fun hc10 hF => ?_) (fun hc10 hF => ?_)
 ·refine wT 28 hc10 ?_
  refine wp 25 ?_
  refine bind_elim hF (fun y2340 hy2340 hF => uI cAffidavitref24_State 2 hy2340 len_cAffidavitref24_State ?_)
  refine wp 27 ?_
  refine uE cAffidavitref24_State 0 (t := 3) (v := .int .i64 y2340.N) 2 1 hy2340 len_cAffidavitref24_State ?_
  refine wp 32 ?_
  refine ite_elim hF (fun hc11 hF => ?_) (fun hc11 hF => ?_)
  ·refine wT 46 hc11 ?_
   refine wp 36 ?_
   refine we ?_
   refine de ?_
   refine ng ?_
   refine xT ?_
   refine xq ?_
   refine wh 1 ?_
   refine we ?_
   refine ng ?_
   refine xt ?_
   refine then_r ?_
   have e := Option.some.inj hF
   subst e
   exact fS [0] (.inl rfl) rfl (shh (b0 := .cells ((cL cAffidavitref24_State) a2 ++ (cL cHeld) a3)) (by kernel_rfl) (shb_cells (by kernel_rfl) (by kernel_rfl) (tights_app (tights_lows ((low_cL low_cAffidavitref24_State) _)) (tights_lows ((low_cL low_cHeld) _)))) shh_nil) ⟨rfl, rfl⟩
  refine wF 46 hc11 ?_
  refine wp 33 ?_
  refine bind_elim hF (fun y2341 hy2341 hF => uC (r24_Rise_ev hy2341) (lows_cons (low_sl low_cHeld) rfl) rfl ?_)
  refine wp 36 ?_
  refine we ?_
  refine de ?_
  refine ng ?_
  refine ite_elim hF (fun hc12 hF => ?_) (fun hc12 hF => ?_)
  ·refine kF 50 (show (!y2341) = false by rw [hc12]; rfl) ?_
   refine xF ?_
   refine xk ?_
   refine then_n ?_
   exact x_to hJ1 (VS.sm 1393796574908163946345982390844253805019128) ⟨(some true), (some (iLe a0 y2340.N)), (some (iLe a0 y2340.N)), (some (iLe a0 y2340.N)), (some y2341), (some (!y2341)), rfl, rfl, hF⟩
  refine kT 50 (show (!y2341) = true by rw [hc12]; rfl) ?_
  refine xT ?_
  refine xq ?_
  refine wh 1 ?_
  refine we ?_
  refine ng ?_
  refine xt ?_
  refine then_r ?_
  have e := Option.some.inj hF
  subst e
  exact fS [0] (.inl rfl) rfl (shh (b0 := .cells ((cL cAffidavitref24_State) a2 ++ (cL cHeld) a3)) (by kernel_rfl) (shb_cells (by kernel_rfl) (by kernel_rfl) (tights_app (tights_lows ((low_cL low_cAffidavitref24_State) _)) (tights_lows ((low_cL low_cHeld) _)))) shh_nil) ⟨rfl, rfl⟩
 refine wF 28 hc10 ?_
 refine wp 33 ?_
 refine bind_elim hF (fun y2342 hy2342 hF => uC (r24_Rise_ev hy2342) (lows_cons (low_sl low_cHeld) rfl) rfl ?_)
 refine wp 36 ?_
 refine we ?_
 refine de ?_
 refine ng ?_
 refine ite_elim hF (fun hc13 hF => ?_) (fun hc13 hF => ?_)
 ·refine kF 50 (show (!y2342) = false by rw [hc13]; rfl) ?_
  refine xF ?_
  refine xk ?_
  refine then_n ?_
  exact x_to hJ1 (VS.sm 1393796574908163946345982390844253805019128) ⟨(some false), none, (some false), (some false), (some y2342), (some (!y2342)), rfl, rfl, hF⟩
 refine kT 50 (show (!y2342) = true by rw [hc13]; rfl) ?_
 refine xT ?_
 refine xq ?_
 refine wh 1 ?_
 refine we ?_
 refine ng ?_
 refine xt ?_
 refine then_r ?_
 have e := Option.some.inj hF
 subst e
 exact fS [0] (.inl rfl) rfl (shh (b0 := .cells ((cL cAffidavitref24_State) a2 ++ (cL cHeld) a3)) (by kernel_rfl) (shb_cells (by kernel_rfl) (by kernel_rfl) (tights_app (tights_lows ((low_cL low_cAffidavitref24_State) _)) (tights_lows ((low_cL low_cHeld) _)))) shh_nil) ⟨rfl, rfl⟩
def l24_do_J2 (a0 : Affidavitlaw24_Act) (a1 : Sl Prune_state) (a2 : Sl Held) (a3 : Sl Affidavitref24_State) (a4 : Sl Held) (p30 : Int) : Option (Bool × (Sl Prune_state) × (Sl Affidavitref24_State) × (Sl Held) × (Sl Held)) :=
  (prune_Book_Add p30 a0.L a1 a2).bind fun y35 => (r24_Book_Add p30 a0.L a3 a4).bind fun y36 => some ((y35.1 == y36.1), y35.2, y36.2, a4, a2)
def l24_do_J3 (a0 : Affidavitlaw24_Act) (a1 : Sl Prune_state) (a2 : Sl Held) (a3 : Sl Affidavitref24_State) (a4 : Sl Held) (p37 : Bool) : Option (Bool × (Sl Prune_state) × (Sl Affidavitref24_State) × (Sl Held) × (Sl Held)) :=
  if p37 = true then (prune_Book_Prune a0.N a1 a2).bind fun y45 => (r24_Book_Prune a0.N a3 a4).bind fun y46 => (r01_Ints y45.1 y46.1).bind fun y47 => some (y47, y45.2.1, y46.2.1, y46.2.2, y45.2.2) else if (a0.Kind == 3) = true then if iGt (a3.l.length : Int) 0 = true then (idxL a3.l (iSub .i64 (a3.l.length : Int) 1)).bind fun y50 => l24_do_J2 a0 a1 a2 a3 a4 (iAdd .i64 y50.N 1) else l24_do_J2 a0 a1 a2 a3 a4 1 else l24_do_J2 a0 a1 a2 a3 a4 a0.N
def l24_do (a0 : Affidavitlaw24_Act) (a1 : Sl Prune_state) (a2 : Sl Held) (a3 : Sl Affidavitref24_State) (a4 : Sl Held) : Option (Bool × (Sl Prune_state) × (Sl Affidavitref24_State) × (Sl Held) × (Sl Held)) :=
  if (a0.Kind == 4) = true then l24_do_J3 a0 a1 a2 a3 a4 true else l24_do_J3 a0 a1 a2 a3 a4 (a0.Kind == 5)
theorem l24_do_ev {a0 : Affidavitlaw24_Act} {a1 : Sl Prune_state} {a2 : Sl Held} {a3 : Sl Affidavitref24_State} {a4 : Sl Held} {r : Bool × (Sl Prune_state) × (Sl Affidavitref24_State) × (Sl Held) × (Sl Held)} (hF : l24_do a0 a1 a2 a3 a4 = some r) : EvCall Try.prog T G0 11 [.ptr 0 0, .ptr 2 0, .agg (cAffidavitlaw24_Act a0)] [.cells ((cL cPrune_state) a1 ++ [rfv false a2 1 2]), rfb cHeld a2, .cells ((cL cAffidavitref24_State) a3 ++ (cL cHeld) a4)] (fun v H' => v = .bool r.1 ∧ H' = [.cells ((cL cPrune_state) r.2.1 ++ [rfv false r.2.2.2.2 3 2]), .dead, .cells ((cL cAffidavitref24_State) r.2.2.1 ++ (cL cHeld) r.2.2.2.1), rfb cHeld r.2.2.2.2]) := by
 refine xc Try.func11 ?_
 refine xq ?_
 refine wr 2 [.cells ((cL cPrune_state) a1 ++ [rfv false a2 1 2]), rfb cHeld a2, .cells ((cL cAffidavitref24_State) a3 ++ (cL cHeld) a4), .cells (cAffidavitlaw24_Act a0)] ?_
 refine we ?_
 refine ng ?_
 refine xj (fun fr H => ∃ (p30 : Int) (g27 : Option Bool) (g28 : Option Bool) (g29 : Option Bool), fr = [.ptr 0 0, .ptr 2 0, .any, .any, .any, .ptr 3 0, .bool false, .any, .any, .bool false, .bool (a0.Kind == 4), junkB g27, .any, .any, .any, .any, .any, .any, .any, .any, .any, junkB g28, .bool (a0.Kind == 3), .any, .any, .any, .any, .any, .any, junkB g29, .any, .any, .any, .any, .any, .any, .any, .any, .any, .any, .any, .any, .any, .any, .any, .any, .any, .any, .any, .any, .any, .any, .any, .any, .any, .any, .any, .any] ∧ H = [.cells ((cL cPrune_state) a1 ++ [rfv false a2 1 2]), rfb cHeld a2, .cells ((cL cAffidavitref24_State) a3 ++ (cL cHeld) a4), .cells ((cI .i64) a0.Kind ++ (cI .i64) p30 ++ (cL cHeld) a0.L)] ∧ l24_do_J2 a0 a1 a2 a3 a4 p30 = some r) (fun fr H ⟨p30, g27, g28, g29, e1, e2, hF⟩ => ?_) (fun hJ2 => ?_)
 ·subst e1 e2
  refine xs ?_
  refine x_rows 0 14303 [⟨5, [], [6, 7, 8, 9, 10], [], [8, 10]⟩, ⟨11, [12, 13], [12, 13], [], []⟩] call_ends callMono (by kernel_rfl) (by kernel_rfl) ?_
  refine wp 10 ?_
  refine we ?_
  refine rows_next ?_
  refine bind_elim hF (fun y35 hy35 hF => uO [0, 1] [0, 1] (v := .int .i64 y35.1) [.cells ((cL cPrune_state) y35.2 ++ [rfv false a2 1 2]), rfb cHeld a2] [.cells ((cL cPrune_state) y35.2 ++ [rfv false a2 1 2]), rfb cHeld a2, .cells ((cL cAffidavitref24_State) a3 ++ (cL cHeld) a4), .cells ((cI .i64) a0.Kind ++ (cI .i64) p30 ++ (cL cHeld) a0.L)] (prune_Book_Add_ev hy35) (tights_cons rfl (tights_cons rfl (tights_cons (tight_sl low_cHeld) rfl))) (pl (b' := .cells ((cL cPrune_state) a1 ++ [rfv false a2 1 2])) (by kernel_rfl) (sb_cells (by kernel_rfl) (by kernel_rfl) (tights_app (tights_lows ((low_cL low_cPrune_state) _)) (tights_cons rfl rfl))) (pl (b' := rfb cHeld a2) (by kernel_rfl) (sb_low (noref_rfb low_cHeld _)) pl_nil)) rfl (sbs (sb_cells (by kernel_rfl) (by kernel_rfl) (tights_app (tights_lows ((low_cL low_cPrune_state) _)) (tights_cons rfl rfl))) (sbs (sb_low (noref_rfb low_cHeld _)) sbs_nil)) ?_)
  refine we ?_
  refine ⟨⟨(by kernel_rfl), chks_of (by kernel_rfl) (by kernel_rfl)⟩, ?_⟩
  refine we ?_
  refine rows_next ?_
  refine bind_elim hF (fun y36 hy36 hF => uO [2] [2] (v := .int .i64 y36.1) [.cells ((cL cAffidavitref24_State) y36.2 ++ (cL cHeld) a4)] [.cells ((cL cPrune_state) y35.2 ++ [rfv false a2 1 2]), rfb cHeld a2, .cells ((cL cAffidavitref24_State) y36.2 ++ (cL cHeld) a4), .cells ((cI .i64) a0.Kind ++ (cI .i64) p30 ++ (cL cHeld) a0.L)] (r24_Book_Add_ev hy36) (tights_cons rfl (tights_cons rfl (tights_cons (tight_sl low_cHeld) rfl))) (pl (b' := .cells ((cL cAffidavitref24_State) a3 ++ (cL cHeld) a4)) (by kernel_rfl) (sb_cells (by kernel_rfl) (by kernel_rfl) (tights_app (tights_lows ((low_cL low_cAffidavitref24_State) _)) (tights_lows ((low_cL low_cHeld) _)))) pl_nil) rfl (sbs (sb_cells (by kernel_rfl) (by kernel_rfl) (tights_app (tights_lows ((low_cL low_cAffidavitref24_State) _)) (tights_lows ((low_cL low_cHeld) _)))) sbs_nil) ?_)
  refine we ?_
  refine ⟨⟨(by kernel_rfl), trivial⟩, ?_⟩
  refine wp 2 ?_
  refine we ?_
  refine rows_done ?_
  refine de ?_
  refine ng ?_
  refine xt ?_
  have e := Option.some.inj hF
  subst e
  exact fin_vs2 (.inl rfl) (by kernel_rfl) (VS.trans (VS.move cHeld a2 1 [] [0] (by kernel_rfl) (by kernel_rfl)) (VS.sh [0, 1, 2, 4] 0 (by kernel_rfl) (by kernel_rfl) (by kernel_rfl) (by kernel_rfl) (shh (b0 := .cells ((cL cPrune_state) y35.2 ++ [rfv false a2 4 2])) (by kernel_rfl) (shb_cells (by kernel_rfl) (by kernel_rfl) (tights_app (tights_lows ((low_cL low_cPrune_state) _)) (tights_cons rfl rfl))) (shh (b0 := .dead) (by kernel_rfl) (shb_dead (by kernel_rfl)) (shh (b0 := .cells ((cL cAffidavitref24_State) y36.2 ++ (cL cHeld) a4)) (by kernel_rfl) (shb_cells (by kernel_rfl) (by kernel_rfl) (tights_app (tights_lows ((low_cL low_cAffidavitref24_State) _)) (tights_lows ((low_cL low_cHeld) _)))) (shh (b0 := rfb cHeld a2) (by kernel_rfl) (NoRef.shb (noref_rfb low_cHeld _)) shh_nil)))))) (And.intro rfl rfl)
 refine xq ?_
 refine wh 2 ?_
 refine we ?_
 refine ng ?_
 refine xb ?_
 refine xj (fun fr H => ∃ (p37 : Bool) (g38 : Option Bool), fr = [.ptr 0 0, .ptr 2 0, .any, .any, .any, .ptr 3 0, .bool false, .any, .int .i64 a0.Kind, .bool p37, .bool (a0.Kind == 4), junkB g38, .any, .any, .any, .any, .any, .any, .any, .any, .any, .any, .any, .any, .any, .any, .any, .any, .any, .any, .any, .any, .any, .any, .any, .any, .any, .any, .any, .any, .any, .any, .any, .any, .any, .any, .any, .any, .any, .any, .any, .any, .any, .any, .any, .any, .any, .any] ∧ H = [.cells ((cL cPrune_state) a1 ++ [rfv false a2 1 2]), rfb cHeld a2, .cells ((cL cAffidavitref24_State) a3 ++ (cL cHeld) a4), .cells (cAffidavitlaw24_Act a0)] ∧ l24_do_J3 a0 a1 a2 a3 a4 p37 = some r) (fun fr H ⟨p37, g38, e1, e2, hF⟩ => ?_) (fun hJ3 => ?_)
 ·subst e1 e2
  refine ite_elim hF (fun hc1 hF => ?_) (fun hc1 hF => ?_)
  ·refine kT 9 hc1 ?_
   refine xT ?_
   refine xs ?_
   refine x_rows 0 887 [⟨3, [], [4, 5, 6], [], [6]⟩, ⟨7, [8, 9], [9], [8], []⟩] call_ends callMono (by kernel_rfl) (by kernel_rfl) ?_
   refine wp 6 ?_
   refine we ?_
   refine rows_next ?_
   refine bind_elim hF (fun y45 hy45 hF => uO [0, 1] [0, 1, 4] (v := sl (cI .i64) y45.1) [.cells ((cL cPrune_state) y45.2.1 ++ [rfv false y45.2.2 4 2]), .dead, rfb cHeld y45.2.2] [.cells ((cL cPrune_state) y45.2.1 ++ [rfv false y45.2.2 4 2]), .dead, .cells ((cL cAffidavitref24_State) a3 ++ (cL cHeld) a4), .cells (cAffidavitlaw24_Act a0), rfb cHeld y45.2.2] (prune_Book_Prune_ev hy45) (by kernel_rfl) (pl (b' := .cells ((cL cPrune_state) a1 ++ [rfv false a2 1 2])) (by kernel_rfl) (sb_cells (by kernel_rfl) (by kernel_rfl) (tights_app (tights_lows ((low_cL low_cPrune_state) _)) (tights_cons rfl rfl))) (pl (b' := rfb cHeld a2) (by kernel_rfl) (sb_low (noref_rfb low_cHeld _)) pl_nil)) (tight_sl low_cI) (sbs (sb_cells (by kernel_rfl) (by kernel_rfl) (tights_app (tights_lows ((low_cL low_cPrune_state) _)) (tights_cons rfl rfl))) (sbs sb_dead (sbs (sb_low (noref_rfb low_cHeld _)) sbs_nil))) ?_)
   refine we ?_
   refine ⟨⟨(by kernel_rfl), chks_of (by kernel_rfl) (by kernel_rfl)⟩, ?_⟩
   refine we ?_
   refine rows_next ?_
   refine bind_elim hF (fun y46 hy46 hF => uO [2] [2] (v := sl (cI .i64) y46.1) [.cells ((cL cAffidavitref24_State) y46.2.1 ++ (cL cHeld) y46.2.2)] [.cells ((cL cPrune_state) y45.2.1 ++ [rfv false y45.2.2 4 2]), .dead, .cells ((cL cAffidavitref24_State) y46.2.1 ++ (cL cHeld) y46.2.2), .cells (cAffidavitlaw24_Act a0), rfb cHeld y45.2.2] (r24_Book_Prune_ev hy46) (by kernel_rfl) (pl (b' := .cells ((cL cAffidavitref24_State) a3 ++ (cL cHeld) a4)) (by kernel_rfl) (sb_cells (by kernel_rfl) (by kernel_rfl) (tights_app (tights_lows ((low_cL low_cAffidavitref24_State) _)) (tights_lows ((low_cL low_cHeld) _)))) pl_nil) (tight_sl low_cI) (sbs (sb_cells (by kernel_rfl) (by kernel_rfl) (tights_app (tights_lows ((low_cL low_cAffidavitref24_State) _)) (tights_lows ((low_cL low_cHeld) _)))) sbs_nil) ?_)
   refine we ?_
   refine ⟨⟨(by kernel_rfl), trivial⟩, ?_⟩
   refine bind_elim hF (fun y47 hy47 hF => uC (r01_Ints_ev hy47) (lows_cons (low_sl low_cI) (lows_cons (low_sl low_cI) rfl)) rfl ?_)
   refine wp 2 ?_
   refine we ?_
   refine rows_done ?_
   refine de ?_
   refine ng ?_
   refine xt ?_
   refine block_r ?_
   refine then_r ?_
   have e := Option.some.inj hF
   subst e
   exact fS [0, 1, 2, 4] (.inl rfl) rfl (shh (b0 := .cells ((cL cPrune_state) y45.2.1 ++ [rfv false y45.2.2 4 2])) (by kernel_rfl) (shb_cells (by kernel_rfl) (by kernel_rfl) (tights_app (tights_lows ((low_cL low_cPrune_state) _)) (tights_cons rfl rfl))) (shh (b0 := .dead) (by kernel_rfl) (shb_dead (by kernel_rfl)) (shh (b0 := .cells ((cL cAffidavitref24_State) y46.2.1 ++ (cL cHeld) y46.2.2)) (by kernel_rfl) (shb_cells (by kernel_rfl) (by kernel_rfl) (tights_app (tights_lows ((low_cL low_cAffidavitref24_State) _)) (tights_lows ((low_cL low_cHeld) _)))) (shh (b0 := rfb cHeld y45.2.2) (by kernel_rfl) (NoRef.shb (noref_rfb low_cHeld _)) shh_nil)))) ⟨rfl, rfl⟩
  refine kF 9 hc1 ?_
  refine xF ?_
  refine xq ?_
  refine wh 2 ?_
  refine we ?_
  refine ng ?_
  refine ite_elim hF (fun hc2 hF => ?_) (fun hc2 hF => ?_)
  ·refine kT 21 hc2 ?_
   refine xT ?_
   refine xq ?_
   refine wr 2 [.cells ((cL cPrune_state) a1 ++ [rfv false a2 1 2]), rfb cHeld a2, .cells ((cL cAffidavitref24_State) a3 ++ (cL cHeld) a4), .cells ((cI .i64) a0.Kind ++ (cI .i64) 1 ++ (cL cHeld) a0.L)] ?_
   refine we ?_
   refine ng ?_
   refine xq ?_
   refine wh 6 ?_
   refine we ?_
   refine ng ?_
   refine ite_elim hF (fun hc3 hF => ?_) (fun hc3 hF => ?_)
   ·refine kT 29 hc3 ?_
    refine xT ?_
    refine x_rows 0 32767 [⟨15, [], [], [], []⟩] call_ends callMono (by kernel_rfl) (by kernel_rfl) ?_
    refine wp 10 ?_
    refine bind_elim hF (fun y50 hy50 hF => uI cAffidavitref24_State 2 hy50 len_cAffidavitref24_State ?_)
    refine wp 12 ?_
    refine uE cAffidavitref24_State 0 (t := 3) (v := .int .i64 y50.N) 2 1 hy50 len_cAffidavitref24_State ?_
    refine wp 15 ?_
    refine we ?_
    refine rows_next ?_
    refine wr 1 [.cells ((cL cPrune_state) a1 ++ [rfv false a2 1 2]), rfb cHeld a2, .cells ((cL cAffidavitref24_State) a3 ++ (cL cHeld) a4), .cells ((cI .i64) a0.Kind ++ (cI .i64) (iAdd .i64 y50.N 1) ++ (cL cHeld) a0.L)] ?_
    refine we ?_
    refine ⟨⟨(by kernel_rfl), trivial⟩, ?_⟩
    refine we ?_
    refine rows_done ?_
    refine de ?_
    refine block_n ?_
    refine then_n ?_
    exact x_to hJ2 (VS.sm 288230376147513756) ⟨iAdd .i64 y50.N 1, g38, (some true), (some true), rfl, rfl, hF⟩
   refine kF 29 hc3 ?_
   refine xF ?_
   refine xk ?_
   refine block_n ?_
   refine then_n ?_
   exact x_to hJ2 (VS.sm 288230376147513756) ⟨1, g38, (some true), (some false), rfl, rfl, hF⟩
  refine kF 21 hc2 ?_
  refine xF ?_
  refine xk ?_
  refine block_n ?_
  refine then_n ?_
  exact x_to hJ2 (VS.sm 288230376147513756) ⟨a0.N, g38, (some false), none, rfl, rfl, hF⟩
 refine xq ?_
 refine wh 2 ?_
 refine we ?_
 refine ng ?_
 refine ite_elim hF (fun hc4 hF => ?_) (fun hc4 hF => ?_)
 ·refine kT 9 hc4 ?_
  refine xT ?_
  refine xk ?_
  refine then_n ?_
  exact x_to hJ3 (VS.sm 288230376151709852) ⟨true, none, rfl, rfl, hF⟩
 refine kF 9 hc4 ?_
 refine xF ?_
 refine xr ?_
 refine wh 2 ?_
 refine we ?_
 refine then_n ?_
 exact x_to hJ3 (VS.sm 288230376151709852) ⟨(a0.Kind == 5), (some (a0.Kind == 5)), rfl, rfl, hF⟩
def prune_Book_States_J1 (p193 : Sl Int) : Option (Sl Int) :=
  some p193.weak
def prune_Book_States_B221 (a0 : Sl Prune_state) (k221 : ((Sl Int) × Int) → Option (Sl Int)) (x221 : (Sl Int) × Int) : Option (Sl Int) :=
  if iLt x221.2 (a0.l.length : Int) = true then (idxL a0.l x221.2).bind fun y224 => (appL 8 x221.1 (⟨false, true, [y224.number]⟩ : Sl Int).l).bind fun y225 => k221 (y225, iAdd .i64 x221.2 1) else prune_Book_States_J1 x221.1
def prune_Book_States (a0 : Sl Prune_state) (a1 : Sl Held) : Option (Sl Int) :=
  loopN (prune_Book_States_B221 a0) FUEL (⟨true, true, []⟩, 0)
theorem prune_Book_States_ev {a0 : Sl Prune_state} {a1 : Sl Held} {r : (Sl Int)} (hF : prune_Book_States a0 a1 = some r) : EvCall Try.prog T G0 13 [.ptr 0 0] [.cells ((cL cPrune_state) a0 ++ [rfv false a1 1 2]), rfb cHeld a1] (fun v H' => v = sl (cI .i64) r ∧ H' = [.cells ((cL cPrune_state) a0 ++ [rfv false a1 1 2]), rfb cHeld a1]) := by
 refine xc Try.func13 ?_
 refine xq ?_
 refine wh 1 ?_
 refine we ?_
 refine ng ?_
 refine xq ?_
 refine wh 1 ?_
 refine we ?_
 refine ng ?_
 refine xs ?_
 refine xq ?_
 refine wh 2 ?_
 refine we ?_
 refine ng ?_
 refine xF ?_
 refine xk ?_
 refine ng ?_
 refine xj (fun fr H => ∃ (p193 : Sl Int) (g192 : Nat) (g194 : Bool), fr = [.any, .any, .any, ownv (cI .i64) 2 g192 1 p193, .any, .any, .any, .bool false, .any, .any, .any, .any, .any, .any, .any, .bool false, .any, .any, .any, .any, .any, .any, .any, .any, .any] ∧ H = [.cells ((cL cPrune_state) a0 ++ [rfv false a1 1 2]), rfb cHeld a1, .room g192 g194] ∧ prune_Book_States_J1 p193 = some r) (fun fr H ⟨p193, g192, g194, e1, e2, hF⟩ => ?_) (fun hJ1 => ?_)
 ·subst e1 e2
  refine xq ?_
  refine wh 2 ?_
  refine we ?_
  refine ng ?_
  refine xt ?_
  have e := Option.some.inj hF
  subst e
  exact fS [0, 1] (.inl rfl) (tight_sl low_cI) (shh (b0 := .cells ((cL cPrune_state) a0 ++ [rfv false a1 1 2])) (by kernel_rfl) (shb_cells (by kernel_rfl) (by kernel_rfl) (tights_app (tights_lows ((low_cL low_cPrune_state) _)) (tights_cons rfl rfl))) (shh (b0 := rfb cHeld a1) (by kernel_rfl) (NoRef.shb (noref_rfb low_cHeld _)) shh_nil)) ⟨rfl, rfl⟩
 refine xq ?_
 refine wh 6 ?_
 refine we ?_
 refine ng ?_
 refine xb ?_
 refine x_loop (fun d fr H => ∃ (x221 : (Sl Int) × Int) (g207 : Nat) (g210 : Option Bool) (g211 : Bool), fr = [.any, .any, .any, ownv (cI .i64) 2 g207 1 x221.1, .any, .any, .any, .bool false, .any, .any, .any, .any, sl cPrune_state a0, .int .i64 (a0.l.length : Int), .int .i64 x221.2, junkB g210, .any, .any, .any, .any, .any, .any, .any, .any, .any] ∧ H = [.cells ((cL cPrune_state) a0 ++ [rfv false a1 1 2]), rfb cHeld a1, .room g207 g211] ∧ loopN (prune_Book_States_B221 a0) d x221 = some r) (by kernel_rfl) (fun fr H ⟨x221, g207, g210, g211, e1, e2, hF⟩ => loop_no hF) (fun d221 fr H ⟨x221, g207, g210, g211, e1, e2, hF⟩ => ?_) (VS.trans (VS.thaw (cI .i64) 3 1 ⟨true, true, []⟩ (by kernel_rfl) rfl (fun _ => rfl)) (VS.sm 33525623)) ⟨(⟨true, true, []⟩, 0), 1, none, false, rfl, rfl, hF⟩
 subst e1 e2
 have hF := loop_in hF
 refine xq ?_
 refine wh 1 ?_
 refine we ?_
 refine ng ?_
 refine xs ?_
 refine ite_elim hF (fun hc1 hF => ?_) (fun hc1 hF => ?_)
 ·refine kT 15 hc1 ?_
  refine xT ?_
  refine xk ?_
  refine ng ?_
  refine xs ?_
  refine xb ?_
  refine xq ?_
  refine bind_elim hF (fun y224 hy224 hF => uI cPrune_state 2 hy224 len_cPrune_state ?_)
  refine uE cPrune_state 0 (t := 63) (v := .agg (cPrune_state y224)) 2 2 hy224 len_cPrune_state ?_
  refine wr 4 [.cells ((cL cPrune_state) a0 ++ [rfv false a1 1 2]), rfb cHeld a1, .room g207 g211, .cells (cPrune_state y224)] ?_
  refine we ?_
  refine ng ?_
  refine xr ?_
  refine wh 3 ?_
  refine w_frz (v := sl (cI .i64) (⟨false, true, [y224.number]⟩ : Sl Int)) (by kernel_rfl) ?_
  refine bind_elim hF (fun y225 hy225 hF => w_app (cI .i64) (e := 3) (sz := 1) (l0 := 2) (real := g211) (ver := g207) (x := x221.1) (ys := (⟨false, true, [y224.number]⟩ : Sl Int).l) hy225 (by kernel_rfl) (by decide) (gives_sl (x := (⟨false, true, [y224.number]⟩ : Sl Int)) (by kernel_rfl) (fun _ => rfl)) (room_at (by kernel_rfl)) ?_)
  refine wr 6 [.cells ((cL cPrune_state) a0 ++ [rfv false a1 1 2]), rfb cHeld a1, .room (g207 + 1) (g211 || !((⟨false, true, [y224.number]⟩ : Sl Int).l.length == 0)), .cells (cPrune_state y224)] ?_
  refine we ?_
  refine block_n ?_
  refine ng ?_
  refine xr ?_
  refine wh 2 ?_
  refine we ?_
  refine then_n ?_
  exact x_back (VS.si [0, 1, 2] 33525623 (tights_at [3, 12] (by kernel_rfl) (by exact ⟨(tight_own low_cI), (tight_sl low_cPrune_state), trivial⟩)) (shh (b0 := .cells ((cL cPrune_state) a0 ++ [rfv false a1 1 2])) (by kernel_rfl) (shb_cells (by kernel_rfl) (by kernel_rfl) (tights_app (tights_lows ((low_cL low_cPrune_state) _)) (tights_cons rfl rfl))) (shh (b0 := rfb cHeld a1) (by kernel_rfl) (NoRef.shb (noref_rfb low_cHeld _)) (shh (b0 := .room (g207 + 1) (g211 || !((⟨false, true, [y224.number]⟩ : Sl Int).l.length == 0))) (by kernel_rfl) shb_room shh_nil)))) ⟨(y225, iAdd .i64 x221.2 1), (g207 + 1), (some true), (g211 || !((⟨false, true, [y224.number]⟩ : Sl Int).l.length == 0)), rfl, rfl, hF⟩
 refine kF 15 hc1 ?_
 refine xF ?_
 refine xe ?_
 refine then_e ?_
 refine then_e ?_
 refine block_e ?_
 refine then_n ?_
 exact x_to hJ1 (VS.sm 33521527) ⟨x221.1, g207, g211, rfl, rfl, hF⟩
end Go.Proofs.Ytbdomlbmbcnaeaa
