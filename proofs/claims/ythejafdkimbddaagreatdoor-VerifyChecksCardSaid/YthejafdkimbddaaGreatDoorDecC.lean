/- What each function of these laws comes to. Printed by main.py; no conditions. -/
import Derived.Test.YthejafdkimbddaaGreatDoorTab
import Derived.Test.YthejafdkimbddaaGreatDoorAbnC
import Derived.Test.YthejafdkimbddaaGreatDoorDecT
import Derived.Test.YthejafdkimbddaaGreatDoorAwk
namespace Go.Proofs.YthejafdkimbddaaGreatDoor
open Go.Abs
set_option maxRecDepth 100000
attribute [local irreducible] ev evAt evW evList evOp evRes EvCall VS aop aload astore AX.then AX.inBlock kRun kRunQ aput evRows
set_option linter.unusedVariables false
structure Reply where
  Number : Int
  Last : Int
  View : List UInt8
  Commit : Arr 32
  Pending : Sl Pending
  ValueNumber : Int
  Value : List UInt8
  Data : Arr 32
  Seen : List UInt8
  SeenTag : Arr 32
def cReply (x : Reply) : List AV:=(cI .i64) x.Number++(cI .i64) x.Last++cS x.View++(cA .u8) x.Commit++(cL cPending) x.Pending++(cI .i64) x.ValueNumber++cS x.Value++(cA .u8) x.Data++cS x.Seen++(cA .u8) x.SeenTag
theorem low_cReply {n : Nat} (x : Reply) : lows n (cReply x)=true:=(lows_app (lows_app (lows_app (lows_app (lows_app (lows_app (lows_app (lows_app (lows_app (low_cI _) (low_cI _)) (low_cS _)) (low_cA _)) ((low_cL low_cPending) _)) (low_cI _)) (low_cS _)) (low_cA _)) (low_cS _)) (low_cA _))
structure Affidavitlaw14_Case where
  Me : Int
  View : List UInt8
  X : Submit
  Y : Reply
def cAffidavitlaw14_Case (x : Affidavitlaw14_Case) : List AV:=(cI .i64) x.Me++cS x.View++cSubmit x.X++cReply x.Y
structure Got where
  View : List UInt8
  Number : Int
  Value : List UInt8
  By : Int
  Long : List UInt8
  LongTag : Arr 32
  Seen : List UInt8
  SeenTag : Arr 32
def cGot (x : Got) : List AV:=cS x.View++(cI .i64) x.Number++cS x.Value++(cI .i64) x.By++cS x.Long++(cA .u8) x.LongTag++cS x.Seen++(cA .u8) x.SeenTag
def eqGot (a b : Got) : Bool:=((a.View==b.View)&&((a.Number==b.Number)&&((a.Value==b.Value)&&((a.By==b.By)&&((a.Long==b.Long)&&(eqA a.LongTag b.LongTag&&((a.Seen==b.Seen)&&(eqA a.SeenTag b.SeenTag&&true))))))))
theorem low_cGot {n : Nat} (x : Got) : lows n (cGot x)=true:=(lows_app (lows_app (lows_app (lows_app (lows_app (lows_app (lows_app (low_cS _) (low_cI _)) (low_cS _)) (low_cI _)) (low_cS _)) (low_cA _)) (low_cS _)) (low_cA _))
structure Blob where
  Owner : Int
  Number : Int
  Cipher : List UInt8
  Tag : Arr 32
def cBlob (x : Blob) : List AV:=(cI .i64) x.Owner++(cI .i64) x.Number++cS x.Cipher++(cA .u8) x.Tag
def eqBlob (a b : Blob) : Bool:=((a.Owner==b.Owner)&&((a.Number==b.Number)&&((a.Cipher==b.Cipher)&&(eqA a.Tag b.Tag&&true))))
theorem low_cBlob {n : Nat} (x : Blob) : lows n (cBlob x)=true:=(lows_app (lows_app (lows_app (low_cI _) (low_cI _)) (low_cS _)) (low_cA _))
structure Msg where
  Kind : Int
  Client : Int
  Submit : Submit
  Reply : Reply
  View : List UInt8
  By : Int
  Tag : Arr 32
  Own : Arr 32
  Blob : Blob
  Numbers : Sl Int
def cMsg (x : Msg) : List AV:=(cI .i64) x.Kind++(cI .i64) x.Client++cSubmit x.Submit++cReply x.Reply++cS x.View++(cI .i64) x.By++(cA .u8) x.Tag++(cA .u8) x.Own++cBlob x.Blob++(cL (cI .i64)) x.Numbers
theorem low_cMsg {n : Nat} (x : Msg) : lows n (cMsg x)=true:=(lows_app (lows_app (lows_app (lows_app (lows_app (lows_app (lows_app (lows_app (lows_app (low_cI _) (low_cI _)) (low_cSubmit _)) (low_cReply _)) (low_cS _)) (low_cI _)) (low_cA _)) (low_cA _)) (low_cBlob _)) ((low_cL low_cI) _))
def msg_within_J1 (p33 : Bool) : Option Bool :=
  some p33
def msg_within (a0 : Int) (a1 : Int) (a2 : Int) : Option Bool :=
  if iGe a0 a1=true then msg_within_J1 (iLe a0 a2) else msg_within_J1 false
theorem msg_within_ev {a0 : Int} {a1 : Int} {a2 : Int} {r : Bool} (hF : msg_within a0 a1 a2=some r) : EvCall Tryz.prog T G0 157 [.int .i64 a0,.int .i64 a1,.int .i64 a2] [] (fun v H'=>v=.bool r∧H'=[]):=by
 refine xc Tryz.func157 ?_
 refine xq (wh 1 (we (ng ?_)))
 refine xj (fun fr H=>∃ (p33 : Bool) (g34 : Option Bool) (g35 : Option Bool) (g36 : Option Bool),fr=[.any,.any,.any,.any,.any,.any,.bool p33,.any,.any,.bool (iGe a0 a1),junkB g34,.any,.any,junkB g35,junkB g36]∧H=[]∧msg_within_J1 p33=some r) (fun fr H ⟨p33,g34,g35,g36,e1,e2,hF⟩=>?_) (fun hJ1=>?_)
 ·subst e1 e2
  refine xt ?_
  cases hF
  exact fE [] (.inl rfl) rfl ⟨rfl,rfl⟩
 refine xr (wh 4 ?_)
 refine ite_elim hF (fun hc1 hF=>?_) (fun hc1 hF=>?_)
 ·exact wT 10 hc1 (wh 9 (we (then_n (x_to hJ1 (VS.sm 32191) ⟨iLe a0 a2,(some true),(some (iLe a0 a2)),(some (iLe a0 a2)),rfl,rfl,hF⟩))))
 exact wF 10 hc1 (wh 9 (we (then_n (x_to hJ1 (VS.sm 32191) ⟨false,(some false),none,(some false),rfl,rfl,hF⟩))))
def msg_number (a0 : Int) : Option Bool :=
  (msg_within a0 1 512).bind fun y33=>some y33
theorem msg_number_ev {a0 : Int} {r : Bool} (hF : msg_number a0=some r) : EvCall Tryz.prog T G0 164 [.int .i64 a0] [] (fun v H'=>v=.bool r∧H'=[]):=by
 refine xc Tryz.func164 ?_
 refine xq (wh 1 (we (ng (xq (wh 1 (bind_elim hF (fun y33 hy33 hF=>uC (msg_within_ev hy33) (lows_cons rfl (lows_cons rfl (lows_cons rfl rfl))) rfl (wh 3 (we (ng (xt ?_)))))))))))
 cases hF
 exact fE [] (.inl rfl) rfl ⟨rfl,rfl⟩
def msg_kind_J1 (p35 : Bool) : Option Bool :=
  some p35
def msg_kind (a0 : Int) : Option Bool :=
  if (a0==1)=true then msg_kind_J1 true else msg_kind_J1 (a0==2)
theorem msg_kind_ev {a0 : Int} {r : Bool} (hF : msg_kind a0=some r) : EvCall Tryz.prog T G0 165 [.int .i64 a0] [] (fun v H'=>v=.bool r∧H'=[]):=by
 refine xc Tryz.func165 ?_
 refine xq (wh 1 (we (ng ?_)))
 refine xj (fun fr H=>∃ (p35 : Bool) (g36 : Option Bool) (g37 : Option Bool) (g38 : Option Bool),fr=[.any,.any,.bool p35,.any,.bool (a0==1),junkB g36,.any,junkB g37,junkB g38]∧H=[]∧msg_kind_J1 p35=some r) (fun fr H ⟨p35,g36,g37,g38,e1,e2,hF⟩=>?_) (fun hJ1=>?_)
 ·subst e1 e2
  refine xt ?_
  cases hF
  exact fE [] (.inl rfl) rfl ⟨rfl,rfl⟩
 refine xr (wh 3 ?_)
 refine ite_elim hF (fun hc1 hF=>?_) (fun hc1 hF=>?_)
 ·exact wT 5 hc1 (wh 7 (we (then_n (x_to hJ1 (VS.sm 491) ⟨true,(some true),none,(some true),rfl,rfl,hF⟩))))
 exact wF 5 hc1 (wh 7 (we (then_n (x_to hJ1 (VS.sm 491) ⟨(a0==2),(some false),(some (a0==2)),(some (a0==2)),rfl,rfl,hF⟩))))
def msg_client (a0 : Int) : Option Bool :=
  (msg_within a0 0 7).bind fun y40=>some y40
theorem msg_client_ev {a0 : Int} {r : Bool} (hF : msg_client a0=some r) : EvCall Tryz.prog T G0 144 [.int .i64 a0] [] (fun v H'=>v=.bool r∧H'=[]):=by
 refine xc Tryz.func144 ?_
 refine xq (wh 1 (we (ng (xq (wh 1 (bind_elim hF (fun y40 hy40 hF=>uC (msg_within_ev hy40) (lows_cons rfl (lows_cons rfl (lows_cons rfl rfl))) rfl (wh 3 (we (ng (xt ?_)))))))))))
 cases hF
 exact fE [] (.inl rfl) rfl ⟨rfl,rfl⟩
def msg_submit_J1 (p36 : Bool) : Option Bool :=
  some p36
def msg_submit (a0 : Submit) : Option Bool :=
  (msg_number a0.Number).bind fun y47=>if y47=true then (msg_kind a0.Kind).bind fun y48=>if y48=true then (msg_client a0.Target).bind fun y49=>if y49=true then msg_submit_J1 (iLe (a0.Value.length : Int) 256) else msg_submit_J1 false else msg_submit_J1 false else msg_submit_J1 false
theorem msg_submit_ev {a0 : Submit} {r : Bool} (hF : msg_submit a0=some r) : EvCall Tryz.prog T G0 152 [.agg (cSubmit a0)] [] (fun v H'=>v=.bool r∧H'=[]):=by
 refine xc Tryz.func152 ?_
 refine xq (wr 2 [.cells (cSubmit a0)] (we (ng ?_)))
 refine xj (fun fr H=>∃ (p36 : Bool) (g37 : Option Bool) (g38 : Option Bool) (g39 : Option Bool) (g40 : Option Bool) (g41 : Option Bool) (g42 : Option Bool) (g43 : Option Bool) (g44 : Option Bool) (g45 : Option Bool) (g46 : Option Bool),fr=[.any,.any,.bool p36,.any,.any,junkB g37,junkB g38,.any,.any,junkB g39,junkB g40,junkB g41,.any,.any,junkB g42,junkB g43,junkB g44,.any,.any,.any,junkB g45,junkB g46]∧H=[]∧msg_submit_J1 p36=some r) (fun fr H ⟨p36,g37,g38,g39,g40,g41,g42,g43,g44,g45,g46,e1,e2,hF⟩=>?_) (fun hJ1=>?_)
 ·subst e1 e2
  refine xt ?_
  cases hF
  exact fE [] (.inl rfl) rfl ⟨rfl,rfl⟩
 refine xr (wh 2 (bind_elim hF (fun y47 hy47 hF=>uC (msg_number_ev hy47) (lows_cons rfl rfl) rfl (wh 4 ?_))))
 refine ite_elim hF (fun hc1 hF=>?_) (fun hc1 hF=>?_)
 ·refine wT 6 hc1 (wh 6 (bind_elim hF (fun y48 hy48 hF=>uC (msg_kind_ev hy48) (lows_cons rfl rfl) rfl (wh 9 ?_))))
  refine ite_elim hF (fun hc2 hF=>?_) (fun hc2 hF=>?_)
  ·refine wT 11 hc2 (wh 11 (bind_elim hF (fun y49 hy49 hF=>uC (msg_client_ev hy49) (lows_cons rfl rfl) rfl (wh 14 ?_))))
   refine ite_elim hF (fun hc3 hF=>?_) (fun hc3 hF=>?_)
   ·exact wT 16 hc3 (wh 20 (we (then_n (x_to hJ1 (VS.si [] 4194299 (by kernel_rfl) shh_nil) ⟨iLe (a0.Value.length : Int) 256,(some y47),(some true),(some y48),(some y48),(some true),(some y49),(some y49),(some true),(some (iLe (a0.Value.length : Int) 256)),(some (iLe (a0.Value.length : Int) 256)),rfl,rfl,hF⟩))))
   exact wF 16 hc3 (wh 20 (we (then_n (x_to hJ1 (VS.si [] 4194299 (by kernel_rfl) shh_nil) ⟨false,(some y47),(some true),(some y48),(some y48),(some true),(some y49),(some y49),(some false),none,(some false),rfl,rfl,hF⟩))))
  exact wF 11 hc2 (wh 20 (we (then_n (x_to hJ1 (VS.si [] 4194299 (by kernel_rfl) shh_nil) ⟨false,(some y47),(some true),(some y48),(some y48),(some false),none,(some false),(some false),none,(some false),rfl,rfl,hF⟩))))
 exact wF 6 hc1 (wh 20 (we (then_n (x_to hJ1 (VS.si [] 4194299 (by kernel_rfl) shh_nil) ⟨false,(some y47),(some false),none,(some false),(some false),none,(some false),(some false),none,(some false),rfl,rfl,hF⟩))))
def msg_own (a0 : Int) (a1 : Submit) (a2 : Reply) (a3 : List UInt8) (a4 : Arr 32) (a5 : Arr 32) (a6 : Blob) (a7 : Sl Int) : Option (Msg×Bool) :=
  (msg_submit a1).bind fun y38=>some ((⟨1,a0,a1,(⟨0,0,[],(Arr.zero 32),⟨true,true,[]⟩,0,[],(Arr.zero 32),[],(Arr.zero 32)⟩ : Reply),[],0,(Arr.zero 32),(Arr.zero 32),(⟨0,0,[],(Arr.zero 32)⟩ : Blob),(⟨true,true,[]⟩ : Sl Int)⟩ : Msg),y38)
theorem msg_own_ev {a0 : Int} {a1 : Submit} {a2 : Reply} {a3 : List UInt8} {a4 : Arr 32} {a5 : Arr 32} {a6 : Blob} {a7 : Sl Int} {r : Msg×Bool} (hF : msg_own a0 a1 a2 a3 a4 a5 a6 a7=some r) : EvCall Tryz.prog T G0 143 [.agg ((cI .i64) 1++(cI .i64) a0++cSubmit a1++cReply a2++cS a3++(cI .i64) 0++(cA .u8) a4++(cA .u8) a5++cBlob a6++(cL (cI .i64)) a7)] [] (fun v H'=>v=.tup [.agg (cMsg r.1),.bool r.2]∧H'=[]):=by
 refine xc Tryz.func143 ?_
 refine xq (wr 3 [.cells (((cI .i64) 1++(cI .i64) a0++cSubmit a1++cReply a2++cS a3++(cI .i64) 0++(cA .u8) a4++(cA .u8) a5++cBlob a6++(cL (cI .i64)) a7)),.cells (cMsg (⟨0,0,⟨0,0,0,[],(Arr.zero 32),(Arr.zero 32)⟩,⟨0,0,[],(Arr.zero 32),⟨true,true,[]⟩,0,[],(Arr.zero 32),[],(Arr.zero 32)⟩,[],0,(Arr.zero 32),(Arr.zero 32),⟨0,0,[],(Arr.zero 32)⟩,⟨true,true,[]⟩⟩ : Msg))] (we (ng (xq (wr 7 [.cells (((cI .i64) 1++(cI .i64) a0++cSubmit a1++cReply a2++cS a3++(cI .i64) 0++(cA .u8) a4++(cA .u8) a5++cBlob a6++(cL (cI .i64)) a7)),.cells (cMsg (⟨0,0,⟨0,0,0,[],(Arr.zero 32),(Arr.zero 32)⟩,⟨0,0,[],(Arr.zero 32),⟨true,true,[]⟩,0,[],(Arr.zero 32),[],(Arr.zero 32)⟩,[],0,(Arr.zero 32),(Arr.zero 32),⟨0,0,[],(Arr.zero 32)⟩,⟨true,true,[]⟩⟩ : Msg)),.cells (cMsg (⟨1,a0,(⟨0,0,0,[],(Arr.zero 32),(Arr.zero 32)⟩ : Submit),(⟨0,0,[],(Arr.zero 32),⟨true,true,[]⟩,0,[],(Arr.zero 32),[],(Arr.zero 32)⟩ : Reply),[],0,(Arr.zero 32),(Arr.zero 32),(⟨0,0,[],(Arr.zero 32)⟩ : Blob),(⟨true,true,[]⟩ : Sl Int)⟩ : Msg))] (we (ng (xs (xq (wh 2 (we (ng (xb (xq (wh 2 (we (ng (xT (xq (wr 4 [.cells (((cI .i64) 1++(cI .i64) a0++cSubmit a1++cReply a2++cS a3++(cI .i64) 0++(cA .u8) a4++(cA .u8) a5++cBlob a6++(cL (cI .i64)) a7)),.cells (cMsg (⟨0,0,⟨0,0,0,[],(Arr.zero 32),(Arr.zero 32)⟩,⟨0,0,[],(Arr.zero 32),⟨true,true,[]⟩,0,[],(Arr.zero 32),[],(Arr.zero 32)⟩,[],0,(Arr.zero 32),(Arr.zero 32),⟨0,0,[],(Arr.zero 32)⟩,⟨true,true,[]⟩⟩ : Msg)),.cells ((cI .i64) 1++(cI .i64) a0++cSubmit a1++cReply (⟨0,0,[],(Arr.zero 32),⟨true,true,[]⟩,0,[],(Arr.zero 32),[],(Arr.zero 32)⟩ : Reply)++cS []++(cI .i64) 0++(cA .u8) (Arr.zero 32)++(cA .u8) (Arr.zero 32)++cBlob (⟨0,0,[],(Arr.zero 32)⟩ : Blob)++(cL (cI .i64)) (⟨true,true,[]⟩ : Sl Int))] (we (ng (xs (x_rows 0 47 [⟨4,[5],[5],[],[]⟩] call_ends callMono (by kernel_rfl) (by kernel_rfl) (wp 3 (bind_elim hF (fun y38 hy38 hF=>uC (msg_submit_ev hy38) (lows_cons (low_agg (low_cSubmit _)) rfl) rfl (we (rows_next (wr 1 [.cells (((cI .i64) 1++(cI .i64) a0++cSubmit a1++cReply a2++cS a3++(cI .i64) 0++(cA .u8) a4++(cA .u8) a5++cBlob a6++(cL (cI .i64)) a7)),.cells (cMsg (⟨1,a0,a1,(⟨0,0,[],(Arr.zero 32),⟨true,true,[]⟩,0,[],(Arr.zero 32),[],(Arr.zero 32)⟩ : Reply),[],0,(Arr.zero 32),(Arr.zero 32),(⟨0,0,[],(Arr.zero 32)⟩ : Blob),(⟨true,true,[]⟩ : Sl Int)⟩ : Msg)),.cells ((cI .i64) 1++(cI .i64) a0++cSubmit a1++cReply (⟨0,0,[],(Arr.zero 32),⟨true,true,[]⟩,0,[],(Arr.zero 32),[],(Arr.zero 32)⟩ : Reply)++cS []++(cI .i64) 0++(cA .u8) (Arr.zero 32)++(cA .u8) (Arr.zero 32)++cBlob (⟨0,0,[],(Arr.zero 32)⟩ : Blob)++(cL (cI .i64)) (⟨true,true,[]⟩ : Sl Int))] ?_))))))))))))))))))))))))))))))
 refine we (⟨⟨(by kernel_rfl),trivial⟩,(wp 1 (we (rows_done (de (ng (xt (block_r (then_r ?_))))))))⟩)
 cases hF
 exact fE [] (.inl rfl) (low_tup (lows_cons (low_agg (low_cMsg _)) (lows_cons rfl rfl))) ⟨rfl,rfl⟩
def slices_Equal_int_int_J1  : Option Bool :=
  some true
def slices_Equal_int_int_B114 (a0 : Sl Int) (a1 : Sl Int) (k114 : Int→Option Bool) (x114 : Int) : Option Bool :=
  if iLt x114 (a0.l.length : Int)=true then (idxL a0.l x114).bind fun y121=>(idxL a1.l x114).bind fun y122=>if (y121 != y122)=true then some false else k114 (iAdd .i64 x114 1) else slices_Equal_int_int_J1
def slices_Equal_int_int (a0 : Sl Int) (a1 : Sl Int) : Option Bool :=
  if ((a0.l.length : Int) != (a1.l.length : Int))=true then some false else loopN (slices_Equal_int_int_B114 a0 a1) FUEL 0
theorem slices_Equal_int_int_ev {a0 : Sl Int} {a1 : Sl Int} {r : Bool} (hF : slices_Equal_int_int a0 a1=some r) : EvCall Tryz.prog T G0 158 [sl (cI .i64) a0,sl (cI .i64) a1] [] (fun v H'=>v=.bool r∧H'=[]):=by
 refine xc Tryz.func158 ?_
 refine xq (wh 1 (we (ng (xs (xq (wh 5 (we (ng ?_))))))))
 refine ite_elim hF (fun hc1 hF=>?_) (fun hc1 hF=>?_)
 ·refine kT 10 hc1 (xT (xq (wh 1 (we (ng (xt (then_r ?_)))))))
  cases hF
  exact fE [] (.inl rfl) rfl ⟨rfl,rfl⟩
 refine kF 10 hc1 (xF (xk (ng ?_)))
 refine xj (fun fr H=>∃ (g91 : Option Bool),fr=[.any,.any,.any,.any,.bool false,.any,.any,.any,.any,.any,.bool false,.any,.any,.any,.bool false,.any,.any,.any,.any,.any,.any,.any,.any,.any,junkB g91,.any]∧H=[]∧slices_Equal_int_int_J1=some r) (fun fr H ⟨g91,e1,e2,hF⟩=>?_) (fun hJ1=>?_)
 ·subst e1 e2
  refine xq (wh 1 (we (ng (xt ?_))))
  cases hF
  exact fE [] (.inl rfl) rfl ⟨rfl,rfl⟩
 refine xq (wh 3 (we (ng (xb (x_loop (fun d fr H=>∃ (x114 : Int) (g101 : Option Bool) (g102 : Option Bool),fr=[sl (cI .i64) a0,sl (cI .i64) a1,.any,.any,.bool false,.any,.any,.any,.any,.any,.bool false,.any,.int .i64 (a0.l.length : Int),.int .i64 x114,junkB g101,.any,.any,.any,.any,.any,.any,.any,.any,.any,junkB g102,.any]∧H=[]∧loopN (slices_Equal_int_int_B114 a0 a1) d x114=some r) (by kernel_rfl) (fun fr H ⟨x114,g101,g102,e1,e2,hF⟩=>loop_no hF) (fun d114 fr H ⟨x114,g101,g102,e1,e2,hF⟩=>?_) (VS.sm 67095532) ⟨0,none,none,rfl,rfl,hF⟩)))))
 subst e1 e2
 have hF:=loop_in hF
 refine xq (wh 1 (we (ng (xs ?_))))
 refine ite_elim hF (fun hc2 hF=>?_) (fun hc2 hF=>?_)
 ·refine kT 14 hc2 (xT (xk (ng (xs (xb (xq (wh 2 (we (ng (xs (xd 0 call_ends callMono (wp 2 (bind_elim hF (fun y121 hy121 hF=>uI (cI .i64) 1 hy121 (fun _=>rfl) (uE (cI .i64) 0 (t:=3) (v:=.int .i64 y121) 1 1 hy121 (fun _=>rfl) (wp 6 (bind_elim hF (fun y122 hy122 hF=>uI (cI .i64) 1 hy122 (fun _=>rfl) (uE (cI .i64) 0 (t:=3) (v:=.int .i64 y122) 1 1 hy122 (fun _=>rfl) (wp 9 (we (de (ng ?_)))))))))))))))))))))))
  refine ite_elim hF (fun hc3 hF=>?_) (fun hc3 hF=>?_)
  ·refine kT 24 hc3 (xT (xq (wh 1 (we (ng (xt (block_r (then_r (then_r (block_r (then_r ?_)))))))))))
   cases hF
   exact fE [] (.inl rfl) rfl ⟨rfl,rfl⟩
  exact kF 24 hc3 (xF (xk (block_n (ng (xr (wh 2 (we (then_n (x_back (VS.sm 67095532) ⟨iAdd .i64 x114 1,(some true),(some false),rfl,rfl,hF⟩)))))))))
 exact kF 14 hc2 (xF (xe (then_e (then_e (block_e (then_n (x_to hJ1 (VS.sm 50314223) ⟨g102,rfl,rfl,hF⟩)))))))
def slices_Equal_api_Pending_api_Pending_J1  : Option Bool :=
  some true
def slices_Equal_api_Pending_api_Pending_B178 (a0 : Sl Pending) (a1 : Sl Pending) (k178 : Int→Option Bool) (x178 : Int) : Option Bool :=
  if iLt x178 (a0.l.length : Int)=true then (idxL a0.l x178).bind fun y185=>(idxL a1.l x178).bind fun y186=>if eqPending y185 y186=true then k178 (iAdd .i64 x178 1) else some false else slices_Equal_api_Pending_api_Pending_J1
def slices_Equal_api_Pending_api_Pending (a0 : Sl Pending) (a1 : Sl Pending) : Option Bool :=
  if ((a0.l.length : Int) != (a1.l.length : Int))=true then some false else loopN (slices_Equal_api_Pending_api_Pending_B178 a0 a1) FUEL 0
theorem slices_Equal_api_Pending_api_Pending_ev {a0 : Sl Pending} {a1 : Sl Pending} {r : Bool} (hF : slices_Equal_api_Pending_api_Pending a0 a1=some r) : EvCall Tryz.prog T G0 166 [sl cPending a0,sl cPending a1] [] (fun v H'=>v=.bool r∧H'=[]):=by
 refine xc Tryz.func166 ?_
 refine xq (wh 1 (we (ng (xs (xq (wh 5 (we (ng ?_))))))))
 refine ite_elim hF (fun hc1 hF=>?_) (fun hc1 hF=>?_)
 ·refine kT 10 hc1 (xT (xq (wh 1 (we (ng (xt (then_r ?_)))))))
  cases hF
  exact fE [] (.inl rfl) rfl ⟨rfl,rfl⟩
 refine kF 10 hc1 (xF (xk (ng ?_)))
 refine xj (fun fr H=>∃ (g155 : Option Bool),fr=[.any,.any,.any,.any,.bool false,.any,.any,.any,.any,.any,.bool false,.any,.any,.any,.bool false,.any,.any,.any,.any,.any,.any,.any,.any,.any,junkB g155,.any]∧H=[]∧slices_Equal_api_Pending_api_Pending_J1=some r) (fun fr H ⟨g155,e1,e2,hF⟩=>?_) (fun hJ1=>?_)
 ·subst e1 e2
  refine xq (wh 1 (we (ng (xt ?_))))
  cases hF
  exact fE [] (.inl rfl) rfl ⟨rfl,rfl⟩
 refine xq (wh 3 (we (ng (xb (x_loop (fun d fr H=>∃ (x178 : Int) (g165 : Option Bool) (g166 : Option Bool),fr=[sl cPending a0,sl cPending a1,.any,.any,.bool false,.any,.any,.any,.any,.any,.bool false,.any,.int .i64 (a0.l.length : Int),.int .i64 x178,junkB g165,.any,.any,.any,.any,.any,.any,.any,.any,.any,junkB g166,.any]∧H=[]∧loopN (slices_Equal_api_Pending_api_Pending_B178 a0 a1) d x178=some r) (by kernel_rfl) (fun fr H ⟨x178,g165,g166,e1,e2,hF⟩=>loop_no hF) (fun d178 fr H ⟨x178,g165,g166,e1,e2,hF⟩=>?_) (VS.sm 67095532) ⟨0,none,none,rfl,rfl,hF⟩)))))
 subst e1 e2
 have hF:=loop_in hF
 refine xq (wh 1 (we (ng (xs ?_))))
 refine ite_elim hF (fun hc2 hF=>?_) (fun hc2 hF=>?_)
 ·refine kT 14 hc2 (xT (xk (ng (xs (xb (xq (wh 2 (we (ng (xs (xd 0 call_ends callMono (wp 2 (bind_elim hF (fun y185 hy185 hF=>uI cPending 68 hy185 len_cPending (uE cPending 0 (t:=46) (v:=.agg (cPending y185)) 68 68 hy185 len_cPending (wp 6 (bind_elim hF (fun y186 hy186 hF=>uI cPending 68 hy186 len_cPending (uE cPending 0 (t:=46) (v:=.agg (cPending y186)) 68 68 hy186 len_cPending (w_neq (b:=eqPending y185 y186) (by kernel_rfl) (we (de (ng ?_)))))))))))))))))))))))
  refine ite_elim hF (fun hc3 hF=>?_) (fun hc3 hF=>?_)
  ·exact kF 24 (show (!(eqPending y185 y186))=false by rw [hc3]; rfl) (xF (xk (block_n (ng (xr (wh 2 (we (then_n (x_back (VS.sm 67095532) ⟨iAdd .i64 x178 1,(some true),(some false),rfl,rfl,hF⟩)))))))))
  refine kT 24 (show (!(eqPending y185 y186))=true by rw [hc3]; rfl) (xT (xq (wh 1 (we (ng (xt (block_r (then_r (then_r (block_r (then_r ?_)))))))))))
  cases hF
  exact fE [] (.inl rfl) rfl ⟨rfl,rfl⟩
 exact kF 14 hc2 (xF (xe (then_e (then_e (block_e (then_n (x_to hJ1 (VS.sm 50314223) ⟨g166,rfl,rfl,hF⟩)))))))
def msg_sameReply_J2 (p138 : Bool) : Option Bool :=
  some p138
def msg_sameReply_J1 (a0 : Reply) (a1 : Reply) (p125 : Bool) : Option Bool :=
  if p125=true then if (a0.ValueNumber==a1.ValueNumber)=true then if (a0.Value==a1.Value)=true then if eqA a0.Data a1.Data=true then if (a0.Seen==a1.Seen)=true then msg_sameReply_J2 (eqA a0.SeenTag a1.SeenTag) else msg_sameReply_J2 false else msg_sameReply_J2 false else msg_sameReply_J2 false else msg_sameReply_J2 false else msg_sameReply_J2 false
def msg_sameReply (a0 : Reply) (a1 : Reply) : Option Bool :=
  if (a0.Number==a1.Number)=true then if (a0.Last==a1.Last)=true then if (a0.View==a1.View)=true then if eqA a0.Commit a1.Commit=true then (slices_Equal_api_Pending_api_Pending a0.Pending a1.Pending).bind fun y154=>msg_sameReply_J1 a0 a1 y154 else msg_sameReply_J1 a0 a1 false else msg_sameReply_J1 a0 a1 false else msg_sameReply_J1 a0 a1 false else msg_sameReply_J1 a0 a1 false
theorem msg_sameReply_ev {a0 : Reply} {a1 : Reply} {r : Bool} (hF : msg_sameReply a0 a1=some r) : EvCall Tryz.prog T G0 159 [.agg (cReply a0),.agg (cReply a1)] [] (fun v H'=>v=.bool r∧H'=[]):=by
 refine xc Tryz.func159 ?_
 refine xq (wr 3 [.cells (cReply a0),.cells (cReply a1)] (we (ng ?_)))
 refine xj (fun fr H=>∃ (p125 : Bool) (g126 : Option Bool) (g127 : Option Bool) (g128 : Option Bool) (g129 : Option Bool) (g130 : Option Bool) (g131 : Option Bool) (g132 : Option Bool) (g133 : Option Bool) (g134 : Option Bool) (g135 : Option Bool) (g136 : Option Bool) (g137 : Option Bool),fr=[.any,.any,.ptr 0 0,.ptr 1 0,.bool false,.bool p125,.any,.any,.any,.any,.bool (a0.Number==a1.Number),junkB g126,.any,.any,.any,.any,junkB g127,junkB g128,junkB g129,.any,.any,.any,.any,junkB g130,junkB g131,junkB g132,.any,.any,.any,.any,junkB g133,junkB g134,junkB g135,.any,.any,.any,.any,junkB g136,junkB g137,.any,.any,.any,.any,.any,.any,.any,.any,.any,.any,.any,.any,.any,.any,.any,.any,.any,.any,.any,.any,.any,.any,.any,.any,.any,.any,.any,.any,.any,.any,.any,.any,.any,.any,.any,.any]∧H=[.cells (cReply a0),.cells (cReply a1)]∧msg_sameReply_J1 a0 a1 p125=some r) (fun fr H ⟨p125,g126,g127,g128,g129,g130,g131,g132,g133,g134,g135,g136,g137,e1,e2,hF⟩=>?_) (fun hJ1=>?_)
 ·subst e1 e2
  refine xj (fun fr H=>∃ (p138 : Bool) (g139 : Option Bool) (g140 : Option Bool) (g141 : Option Bool) (g142 : Option Bool) (g143 : Option Bool) (g144 : Option Bool) (g145 : Option Bool) (g146 : Option Bool) (g147 : Option Bool) (g148 : Option Bool) (g149 : Option Bool) (g150 : Option Bool) (g151 : Option Bool) (g152 : Option Bool) (g153 : Option Bool),fr=[.any,.any,.any,.any,.bool p138,.bool p125,.any,.any,.any,.any,.bool (a0.Number==a1.Number),junkB g126,.any,.any,.any,.any,junkB g127,junkB g128,junkB g129,.any,.any,.any,.any,junkB g130,junkB g131,junkB g132,.any,.any,.any,.any,junkB g133,junkB g134,junkB g135,.any,.any,.any,.any,junkB g136,junkB g137,.bool p125,junkB g139,.any,.any,.any,.any,junkB g140,junkB g141,junkB g142,.any,.any,.any,.any,junkB g143,junkB g144,junkB g145,.any,.any,.any,.any,junkB g146,junkB g147,junkB g148,.any,.any,.any,.any,junkB g149,junkB g150,junkB g151,.any,.any,.any,.any,junkB g152,junkB g153]∧H=[]∧msg_sameReply_J2 p138=some r) (fun fr H ⟨p138,g139,g140,g141,g142,g143,g144,g145,g146,g147,g148,g149,g150,g151,g152,g153,e1,e2,hF⟩=>?_) (fun hJ2=>?_)
  ·subst e1 e2
   refine xt ?_
   cases hF
   exact fE [] (.inl rfl) rfl ⟨rfl,rfl⟩
  refine xr (wh 2 ?_)
  refine ite_elim hF (fun hc1 hF=>?_) (fun hc1 hF=>?_)
  ·refine wT 40 hc1 (wh 9 ?_)
   refine ite_elim hF (fun hc2 hF=>?_) (fun hc2 hF=>?_)
   ·refine wT 47 hc2 (wh 16 ?_)
    refine ite_elim hF (fun hc3 hF=>?_) (fun hc3 hF=>?_)
    ·refine wT 54 hc3 (wh 20 (w_eql (b:=eqA a0.Data a1.Data) (by kernel_rfl) (wh 23 ?_)))
     refine ite_elim hF (fun hc4 hF=>?_) (fun hc4 hF=>?_)
     ·refine wT 61 hc4 (wh 30 ?_)
      refine ite_elim hF (fun hc5 hF=>?_) (fun hc5 hF=>?_)
      ·exact wT 68 hc5 (wh 34 (w_eql (b:=eqA a0.SeenTag a1.SeenTag) (by kernel_rfl) (wh 37 (we (then_n (x_to hJ2 (VS.shX [] 37778931861987513660367 [11,16,17,18,23,24,25,30,31,32,37,38] (by kernel_rfl) (by kernel_rfl) (by kernel_rfl) (by exact ⟨low_junk g126,low_junk g127,low_junk g128,low_junk g129,low_junk g130,low_junk g131,low_junk g132,low_junk g133,low_junk g134,low_junk g135,low_junk g136,low_junk g137,trivial⟩) (tights_at [11,16,17,18,23,24,25,30,31,32,37,38] (by kernel_rfl) (by exact ⟨(tight_junk g126),(tight_junk g127),(tight_junk g128),(tight_junk g129),(tight_junk g130),(tight_junk g131),(tight_junk g132),(tight_junk g133),(tight_junk g134),(tight_junk g135),(tight_junk g136),(tight_junk g137),trivial⟩)) shh_nil) ⟨eqA a0.SeenTag a1.SeenTag,(some true),(some (a0.ValueNumber==a1.ValueNumber)),(some (a0.ValueNumber==a1.ValueNumber)),(some true),(some (a0.Value==a1.Value)),(some (a0.Value==a1.Value)),(some true),(some (eqA a0.Data a1.Data)),(some (eqA a0.Data a1.Data)),(some true),(some (a0.Seen==a1.Seen)),(some (a0.Seen==a1.Seen)),(some true),(some (eqA a0.SeenTag a1.SeenTag)),(some (eqA a0.SeenTag a1.SeenTag)),rfl,rfl,hF⟩))))))
      exact wF 68 hc5 (wh 37 (we (then_n (x_to hJ2 (VS.shX [] 37778931861987513660367 [11,16,17,18,23,24,25,30,31,32,37,38] (by kernel_rfl) (by kernel_rfl) (by kernel_rfl) (by exact ⟨low_junk g126,low_junk g127,low_junk g128,low_junk g129,low_junk g130,low_junk g131,low_junk g132,low_junk g133,low_junk g134,low_junk g135,low_junk g136,low_junk g137,trivial⟩) (tights_at [11,16,17,18,23,24,25,30,31,32,37,38] (by kernel_rfl) (by exact ⟨(tight_junk g126),(tight_junk g127),(tight_junk g128),(tight_junk g129),(tight_junk g130),(tight_junk g131),(tight_junk g132),(tight_junk g133),(tight_junk g134),(tight_junk g135),(tight_junk g136),(tight_junk g137),trivial⟩)) shh_nil) ⟨false,(some true),(some (a0.ValueNumber==a1.ValueNumber)),(some (a0.ValueNumber==a1.ValueNumber)),(some true),(some (a0.Value==a1.Value)),(some (a0.Value==a1.Value)),(some true),(some (eqA a0.Data a1.Data)),(some (eqA a0.Data a1.Data)),(some true),(some (a0.Seen==a1.Seen)),(some (a0.Seen==a1.Seen)),(some false),none,(some false),rfl,rfl,hF⟩))))
     exact wF 61 hc4 (wh 37 (we (then_n (x_to hJ2 (VS.shX [] 37778931861987513660367 [11,16,17,18,23,24,25,30,31,32,37,38] (by kernel_rfl) (by kernel_rfl) (by kernel_rfl) (by exact ⟨low_junk g126,low_junk g127,low_junk g128,low_junk g129,low_junk g130,low_junk g131,low_junk g132,low_junk g133,low_junk g134,low_junk g135,low_junk g136,low_junk g137,trivial⟩) (tights_at [11,16,17,18,23,24,25,30,31,32,37,38] (by kernel_rfl) (by exact ⟨(tight_junk g126),(tight_junk g127),(tight_junk g128),(tight_junk g129),(tight_junk g130),(tight_junk g131),(tight_junk g132),(tight_junk g133),(tight_junk g134),(tight_junk g135),(tight_junk g136),(tight_junk g137),trivial⟩)) shh_nil) ⟨false,(some true),(some (a0.ValueNumber==a1.ValueNumber)),(some (a0.ValueNumber==a1.ValueNumber)),(some true),(some (a0.Value==a1.Value)),(some (a0.Value==a1.Value)),(some true),(some (eqA a0.Data a1.Data)),(some (eqA a0.Data a1.Data)),(some false),none,(some false),(some false),none,(some false),rfl,rfl,hF⟩))))
    exact wF 54 hc3 (wh 37 (we (then_n (x_to hJ2 (VS.shX [] 37778931861987513660367 [11,16,17,18,23,24,25,30,31,32,37,38] (by kernel_rfl) (by kernel_rfl) (by kernel_rfl) (by exact ⟨low_junk g126,low_junk g127,low_junk g128,low_junk g129,low_junk g130,low_junk g131,low_junk g132,low_junk g133,low_junk g134,low_junk g135,low_junk g136,low_junk g137,trivial⟩) (tights_at [11,16,17,18,23,24,25,30,31,32,37,38] (by kernel_rfl) (by exact ⟨(tight_junk g126),(tight_junk g127),(tight_junk g128),(tight_junk g129),(tight_junk g130),(tight_junk g131),(tight_junk g132),(tight_junk g133),(tight_junk g134),(tight_junk g135),(tight_junk g136),(tight_junk g137),trivial⟩)) shh_nil) ⟨false,(some true),(some (a0.ValueNumber==a1.ValueNumber)),(some (a0.ValueNumber==a1.ValueNumber)),(some true),(some (a0.Value==a1.Value)),(some (a0.Value==a1.Value)),(some false),none,(some false),(some false),none,(some false),(some false),none,(some false),rfl,rfl,hF⟩))))
   exact wF 47 hc2 (wh 37 (we (then_n (x_to hJ2 (VS.shX [] 37778931861987513660367 [11,16,17,18,23,24,25,30,31,32,37,38] (by kernel_rfl) (by kernel_rfl) (by kernel_rfl) (by exact ⟨low_junk g126,low_junk g127,low_junk g128,low_junk g129,low_junk g130,low_junk g131,low_junk g132,low_junk g133,low_junk g134,low_junk g135,low_junk g136,low_junk g137,trivial⟩) (tights_at [11,16,17,18,23,24,25,30,31,32,37,38] (by kernel_rfl) (by exact ⟨(tight_junk g126),(tight_junk g127),(tight_junk g128),(tight_junk g129),(tight_junk g130),(tight_junk g131),(tight_junk g132),(tight_junk g133),(tight_junk g134),(tight_junk g135),(tight_junk g136),(tight_junk g137),trivial⟩)) shh_nil) ⟨false,(some true),(some (a0.ValueNumber==a1.ValueNumber)),(some (a0.ValueNumber==a1.ValueNumber)),(some false),none,(some false),(some false),none,(some false),(some false),none,(some false),(some false),none,(some false),rfl,rfl,hF⟩))))
  exact wF 40 hc1 (wh 37 (we (then_n (x_to hJ2 (VS.shX [] 37778931861987513660367 [11,16,17,18,23,24,25,30,31,32,37,38] (by kernel_rfl) (by kernel_rfl) (by kernel_rfl) (by exact ⟨low_junk g126,low_junk g127,low_junk g128,low_junk g129,low_junk g130,low_junk g131,low_junk g132,low_junk g133,low_junk g134,low_junk g135,low_junk g136,low_junk g137,trivial⟩) (tights_at [11,16,17,18,23,24,25,30,31,32,37,38] (by kernel_rfl) (by exact ⟨(tight_junk g126),(tight_junk g127),(tight_junk g128),(tight_junk g129),(tight_junk g130),(tight_junk g131),(tight_junk g132),(tight_junk g133),(tight_junk g134),(tight_junk g135),(tight_junk g136),(tight_junk g137),trivial⟩)) shh_nil) ⟨false,(some false),none,(some false),(some false),none,(some false),(some false),none,(some false),(some false),none,(some false),(some false),none,(some false),rfl,rfl,hF⟩))))
 refine xr (wh 6 ?_)
 refine ite_elim hF (fun hc6 hF=>?_) (fun hc6 hF=>?_)
 ·refine wT 11 hc6 (wh 13 ?_)
  refine ite_elim hF (fun hc7 hF=>?_) (fun hc7 hF=>?_)
  ·refine wT 18 hc7 (wh 20 ?_)
   refine ite_elim hF (fun hc8 hF=>?_) (fun hc8 hF=>?_)
   ·refine wT 25 hc8 (wh 24 (w_eql (b:=eqA a0.Commit a1.Commit) (by kernel_rfl) (wh 27 ?_)))
    refine ite_elim hF (fun hc9 hF=>?_) (fun hc9 hF=>?_)
    ·exact wT 32 hc9 (wh 31 (bind_elim hF (fun y154 hy154 hF=>uC (slices_Equal_api_Pending_api_Pending_ev hy154) (lows_cons (low_sl low_cPending) (lows_cons (low_sl low_cPending) rfl)) rfl (wh 34 (we (then_n (x_to hJ1 (VS.sm 37778931862957161708483) ⟨y154,(some true),(some (a0.Last==a1.Last)),(some (a0.Last==a1.Last)),(some true),(some (a0.View==a1.View)),(some (a0.View==a1.View)),(some true),(some (eqA a0.Commit a1.Commit)),(some (eqA a0.Commit a1.Commit)),(some true),(some y154),(some y154),rfl,rfl,hF⟩)))))))
    exact wF 32 hc9 (wh 34 (we (then_n (x_to hJ1 (VS.sm 37778931862957161708483) ⟨false,(some true),(some (a0.Last==a1.Last)),(some (a0.Last==a1.Last)),(some true),(some (a0.View==a1.View)),(some (a0.View==a1.View)),(some true),(some (eqA a0.Commit a1.Commit)),(some (eqA a0.Commit a1.Commit)),(some false),none,(some false),rfl,rfl,hF⟩))))
   exact wF 25 hc8 (wh 34 (we (then_n (x_to hJ1 (VS.sm 37778931862957161708483) ⟨false,(some true),(some (a0.Last==a1.Last)),(some (a0.Last==a1.Last)),(some true),(some (a0.View==a1.View)),(some (a0.View==a1.View)),(some false),none,(some false),(some false),none,(some false),rfl,rfl,hF⟩))))
  exact wF 18 hc7 (wh 34 (we (then_n (x_to hJ1 (VS.sm 37778931862957161708483) ⟨false,(some true),(some (a0.Last==a1.Last)),(some (a0.Last==a1.Last)),(some false),none,(some false),(some false),none,(some false),(some false),none,(some false),rfl,rfl,hF⟩))))
 exact wF 11 hc6 (wh 34 (we (then_n (x_to hJ1 (VS.sm 37778931862957161708483) ⟨false,(some false),none,(some false),(some false),none,(some false),(some false),none,(some false),(some false),none,(some false),rfl,rfl,hF⟩))))
def msg_Same_J2 (p62 : Bool) : Option Bool :=
  some p62
def msg_Same_J1 (a0 : Msg) (a1 : Msg) (p41 : Bool) : Option Bool :=
  if p41=true then if eqBlob a0.Blob a1.Blob=true then (slices_Equal_int_int a0.Numbers a1.Numbers).bind fun y72=>if y72=true then (msg_sameReply a0.Reply a1.Reply).bind fun y73=>msg_Same_J2 y73 else msg_Same_J2 false else msg_Same_J2 false else msg_Same_J2 false
def msg_Same (a0 : Msg) (a1 : Msg) : Option Bool :=
  if (a0.Kind==a1.Kind)=true then if (a0.Client==a1.Client)=true then if eqSubmit a0.Submit a1.Submit=true then if (a0.View==a1.View)=true then if (a0.By==a1.By)=true then if eqA a0.Tag a1.Tag=true then msg_Same_J1 a0 a1 (eqA a0.Own a1.Own) else msg_Same_J1 a0 a1 false else msg_Same_J1 a0 a1 false else msg_Same_J1 a0 a1 false else msg_Same_J1 a0 a1 false else msg_Same_J1 a0 a1 false else msg_Same_J1 a0 a1 false
theorem msg_Same_ev {a0 : Msg} {a1 : Msg} {r : Bool} (hF : msg_Same a0 a1=some r) : EvCall Tryz.prog T G0 145 [.agg (cMsg a0),.agg (cMsg a1)] [] (fun v H'=>v=.bool r∧H'=[]):=by
 refine xc Tryz.func145 ?_
 refine xq (wr 3 [.cells (cMsg a0),.cells (cMsg a1)] (we (ng ?_)))
 refine xj (fun fr H=>∃ (p41 : Bool) (g42 : Option Bool) (g43 : Option Bool) (g44 : Option Bool) (g45 : Option Bool) (g46 : Option Bool) (g47 : Option Bool) (g48 : Option Bool) (g49 : Option Bool) (g50 : Option Bool) (g51 : Option Bool) (g52 : Option Bool) (g53 : Option Bool) (g54 : Option Bool) (g55 : Option Bool) (g56 : Option Bool) (g57 : Option Bool) (g58 : Option Bool) (g59 : Option Bool),fr=[.any,.any,.ptr 0 0,.ptr 1 0,.bool false,.bool p41,.any,.any,.any,.any,.bool (a0.Kind==a1.Kind),junkB g42,.any,.any,.any,.any,junkB g43,junkB g44,junkB g45,.any,.any,.any,.any,junkB g46,junkB g47,junkB g48,.any,.any,.any,.any,junkB g49,junkB g50,junkB g51,.any,.any,.any,.any,junkB g52,junkB g53,junkB g54,.any,.any,.any,.any,junkB g55,junkB g56,junkB g57,.any,.any,.any,.any,junkB g58,junkB g59,.any,.any,.any,.any,.any,.any,.any,.any,.any,.any,.any,.any,.any,.any,.any,.any,.any,.any,.any,.any,.any,.any]∧H=[.cells (cMsg a0),.cells (cMsg a1)]∧msg_Same_J1 a0 a1 p41=some r) (fun fr H ⟨p41,g42,g43,g44,g45,g46,g47,g48,g49,g50,g51,g52,g53,g54,g55,g56,g57,g58,g59,e1,e2,hF⟩=>?_) (fun hJ1=>?_)
 ·subst e1 e2
  refine xj (fun fr H=>∃ (p62 : Bool) (g63 : Option Bool) (g64 : Option Bool) (g65 : Option Bool) (g66 : Option Bool) (g67 : Option Bool) (g68 : Option Bool) (g69 : Option Bool) (g70 : Option Bool) (g71 : Option Bool),fr=[.any,.any,.any,.any,.bool p62,.bool p41,.any,.any,.any,.any,.bool (a0.Kind==a1.Kind),junkB g42,.any,.any,.any,.any,junkB g43,junkB g44,junkB g45,.any,.any,.any,.any,junkB g46,junkB g47,junkB g48,.any,.any,.any,.any,junkB g49,junkB g50,junkB g51,.any,.any,.any,.any,junkB g52,junkB g53,junkB g54,.any,.any,.any,.any,junkB g55,junkB g56,junkB g57,.any,.any,.any,.any,junkB g58,junkB g59,.bool p41,junkB g63,.any,.any,.any,.any,junkB g64,junkB g65,junkB g66,.any,.any,.any,.any,junkB g67,junkB g68,junkB g69,.any,.any,.any,.any,junkB g70,junkB g71]∧H=[]∧msg_Same_J2 p62=some r) (fun fr H ⟨p62,g63,g64,g65,g66,g67,g68,g69,g70,g71,e1,e2,hF⟩=>?_) (fun hJ2=>?_)
  ·subst e1 e2
   refine xt ?_
   cases hF
   exact fE [] (.inl rfl) rfl ⟨rfl,rfl⟩
  refine xr (wh 2 ?_)
  refine ite_elim hF (fun hc1 hF=>?_) (fun hc1 hF=>?_)
  ·refine wT 54 hc1 (wh 6 (w_eql (b:=eqBlob a0.Blob a1.Blob) (by kernel_rfl) (wh 9 ?_)))
   refine ite_elim hF (fun hc2 hF=>?_) (fun hc2 hF=>?_)
   ·refine wT 61 hc2 (wh 13 (bind_elim hF (fun y72 hy72 hF=>uC (slices_Equal_int_int_ev hy72) (lows_cons (low_sl low_cI) (lows_cons (low_sl low_cI) rfl)) rfl (wh 16 ?_))))
    refine ite_elim hF (fun hc3 hF=>?_) (fun hc3 hF=>?_)
    ·exact wT 68 hc3 (wh 20 (bind_elim hF (fun y73 hy73 hF=>uC (msg_sameReply_ev hy73) (lows_cons (low_agg (low_cReply _)) (lows_cons (low_agg (low_cReply _)) rfl)) rfl (wh 23 (we (then_n (x_to hJ2 (VS.shX [] 37778915976243515552719 [11,16,17,18,23,24,25,30,31,32,37,38,39,44,45,46,51,52] (by kernel_rfl) (by kernel_rfl) (by kernel_rfl) (by exact ⟨low_junk g42,low_junk g43,low_junk g44,low_junk g45,low_junk g46,low_junk g47,low_junk g48,low_junk g49,low_junk g50,low_junk g51,low_junk g52,low_junk g53,low_junk g54,low_junk g55,low_junk g56,low_junk g57,low_junk g58,low_junk g59,trivial⟩) (tights_at [11,16,17,18,23,24,25,30,31,32,37,38,39,44,45,46,51,52] (by kernel_rfl) (by exact ⟨(tight_junk g42),(tight_junk g43),(tight_junk g44),(tight_junk g45),(tight_junk g46),(tight_junk g47),(tight_junk g48),(tight_junk g49),(tight_junk g50),(tight_junk g51),(tight_junk g52),(tight_junk g53),(tight_junk g54),(tight_junk g55),(tight_junk g56),(tight_junk g57),(tight_junk g58),(tight_junk g59),trivial⟩)) shh_nil) ⟨y73,(some true),(some (eqBlob a0.Blob a1.Blob)),(some (eqBlob a0.Blob a1.Blob)),(some true),(some y72),(some y72),(some true),(some y73),(some y73),rfl,rfl,hF⟩)))))))
    exact wF 68 hc3 (wh 23 (we (then_n (x_to hJ2 (VS.shX [] 37778915976243515552719 [11,16,17,18,23,24,25,30,31,32,37,38,39,44,45,46,51,52] (by kernel_rfl) (by kernel_rfl) (by kernel_rfl) (by exact ⟨low_junk g42,low_junk g43,low_junk g44,low_junk g45,low_junk g46,low_junk g47,low_junk g48,low_junk g49,low_junk g50,low_junk g51,low_junk g52,low_junk g53,low_junk g54,low_junk g55,low_junk g56,low_junk g57,low_junk g58,low_junk g59,trivial⟩) (tights_at [11,16,17,18,23,24,25,30,31,32,37,38,39,44,45,46,51,52] (by kernel_rfl) (by exact ⟨(tight_junk g42),(tight_junk g43),(tight_junk g44),(tight_junk g45),(tight_junk g46),(tight_junk g47),(tight_junk g48),(tight_junk g49),(tight_junk g50),(tight_junk g51),(tight_junk g52),(tight_junk g53),(tight_junk g54),(tight_junk g55),(tight_junk g56),(tight_junk g57),(tight_junk g58),(tight_junk g59),trivial⟩)) shh_nil) ⟨false,(some true),(some (eqBlob a0.Blob a1.Blob)),(some (eqBlob a0.Blob a1.Blob)),(some true),(some y72),(some y72),(some false),none,(some false),rfl,rfl,hF⟩))))
   exact wF 61 hc2 (wh 23 (we (then_n (x_to hJ2 (VS.shX [] 37778915976243515552719 [11,16,17,18,23,24,25,30,31,32,37,38,39,44,45,46,51,52] (by kernel_rfl) (by kernel_rfl) (by kernel_rfl) (by exact ⟨low_junk g42,low_junk g43,low_junk g44,low_junk g45,low_junk g46,low_junk g47,low_junk g48,low_junk g49,low_junk g50,low_junk g51,low_junk g52,low_junk g53,low_junk g54,low_junk g55,low_junk g56,low_junk g57,low_junk g58,low_junk g59,trivial⟩) (tights_at [11,16,17,18,23,24,25,30,31,32,37,38,39,44,45,46,51,52] (by kernel_rfl) (by exact ⟨(tight_junk g42),(tight_junk g43),(tight_junk g44),(tight_junk g45),(tight_junk g46),(tight_junk g47),(tight_junk g48),(tight_junk g49),(tight_junk g50),(tight_junk g51),(tight_junk g52),(tight_junk g53),(tight_junk g54),(tight_junk g55),(tight_junk g56),(tight_junk g57),(tight_junk g58),(tight_junk g59),trivial⟩)) shh_nil) ⟨false,(some true),(some (eqBlob a0.Blob a1.Blob)),(some (eqBlob a0.Blob a1.Blob)),(some false),none,(some false),(some false),none,(some false),rfl,rfl,hF⟩))))
  exact wF 54 hc1 (wh 23 (we (then_n (x_to hJ2 (VS.shX [] 37778915976243515552719 [11,16,17,18,23,24,25,30,31,32,37,38,39,44,45,46,51,52] (by kernel_rfl) (by kernel_rfl) (by kernel_rfl) (by exact ⟨low_junk g42,low_junk g43,low_junk g44,low_junk g45,low_junk g46,low_junk g47,low_junk g48,low_junk g49,low_junk g50,low_junk g51,low_junk g52,low_junk g53,low_junk g54,low_junk g55,low_junk g56,low_junk g57,low_junk g58,low_junk g59,trivial⟩) (tights_at [11,16,17,18,23,24,25,30,31,32,37,38,39,44,45,46,51,52] (by kernel_rfl) (by exact ⟨(tight_junk g42),(tight_junk g43),(tight_junk g44),(tight_junk g45),(tight_junk g46),(tight_junk g47),(tight_junk g48),(tight_junk g49),(tight_junk g50),(tight_junk g51),(tight_junk g52),(tight_junk g53),(tight_junk g54),(tight_junk g55),(tight_junk g56),(tight_junk g57),(tight_junk g58),(tight_junk g59),trivial⟩)) shh_nil) ⟨false,(some false),none,(some false),(some false),none,(some false),(some false),none,(some false),rfl,rfl,hF⟩))))
 refine xr (wh 6 ?_)
 refine ite_elim hF (fun hc4 hF=>?_) (fun hc4 hF=>?_)
 ·refine wT 11 hc4 (wh 13 ?_)
  refine ite_elim hF (fun hc5 hF=>?_) (fun hc5 hF=>?_)
  ·refine wT 18 hc5 (wh 17 (w_eql (b:=eqSubmit a0.Submit a1.Submit) (by kernel_rfl) (wh 20 ?_)))
   refine ite_elim hF (fun hc6 hF=>?_) (fun hc6 hF=>?_)
   ·refine wT 25 hc6 (wh 27 ?_)
    refine ite_elim hF (fun hc7 hF=>?_) (fun hc7 hF=>?_)
    ·refine wT 32 hc7 (wh 34 ?_)
     refine ite_elim hF (fun hc8 hF=>?_) (fun hc8 hF=>?_)
     ·refine wT 39 hc8 (wh 38 (w_eql (b:=eqA a0.Tag a1.Tag) (by kernel_rfl) (wh 41 ?_)))
      refine ite_elim hF (fun hc9 hF=>?_) (fun hc9 hF=>?_)
      ·exact wT 46 hc9 (wh 45 (w_eql (b:=eqA a0.Own a1.Own) (by kernel_rfl) (wh 48 (we (then_n (x_to hJ1 (VS.sm 37778931862957161708483) ⟨eqA a0.Own a1.Own,(some true),(some (a0.Client==a1.Client)),(some (a0.Client==a1.Client)),(some true),(some (eqSubmit a0.Submit a1.Submit)),(some (eqSubmit a0.Submit a1.Submit)),(some true),(some (a0.View==a1.View)),(some (a0.View==a1.View)),(some true),(some (a0.By==a1.By)),(some (a0.By==a1.By)),(some true),(some (eqA a0.Tag a1.Tag)),(some (eqA a0.Tag a1.Tag)),(some true),(some (eqA a0.Own a1.Own)),(some (eqA a0.Own a1.Own)),rfl,rfl,hF⟩))))))
      exact wF 46 hc9 (wh 48 (we (then_n (x_to hJ1 (VS.sm 37778931862957161708483) ⟨false,(some true),(some (a0.Client==a1.Client)),(some (a0.Client==a1.Client)),(some true),(some (eqSubmit a0.Submit a1.Submit)),(some (eqSubmit a0.Submit a1.Submit)),(some true),(some (a0.View==a1.View)),(some (a0.View==a1.View)),(some true),(some (a0.By==a1.By)),(some (a0.By==a1.By)),(some true),(some (eqA a0.Tag a1.Tag)),(some (eqA a0.Tag a1.Tag)),(some false),none,(some false),rfl,rfl,hF⟩))))
     exact wF 39 hc8 (wh 48 (we (then_n (x_to hJ1 (VS.sm 37778931862957161708483) ⟨false,(some true),(some (a0.Client==a1.Client)),(some (a0.Client==a1.Client)),(some true),(some (eqSubmit a0.Submit a1.Submit)),(some (eqSubmit a0.Submit a1.Submit)),(some true),(some (a0.View==a1.View)),(some (a0.View==a1.View)),(some true),(some (a0.By==a1.By)),(some (a0.By==a1.By)),(some false),none,(some false),(some false),none,(some false),rfl,rfl,hF⟩))))
    exact wF 32 hc7 (wh 48 (we (then_n (x_to hJ1 (VS.sm 37778931862957161708483) ⟨false,(some true),(some (a0.Client==a1.Client)),(some (a0.Client==a1.Client)),(some true),(some (eqSubmit a0.Submit a1.Submit)),(some (eqSubmit a0.Submit a1.Submit)),(some true),(some (a0.View==a1.View)),(some (a0.View==a1.View)),(some false),none,(some false),(some false),none,(some false),(some false),none,(some false),rfl,rfl,hF⟩))))
   exact wF 25 hc6 (wh 48 (we (then_n (x_to hJ1 (VS.sm 37778931862957161708483) ⟨false,(some true),(some (a0.Client==a1.Client)),(some (a0.Client==a1.Client)),(some true),(some (eqSubmit a0.Submit a1.Submit)),(some (eqSubmit a0.Submit a1.Submit)),(some false),none,(some false),(some false),none,(some false),(some false),none,(some false),(some false),none,(some false),rfl,rfl,hF⟩))))
  exact wF 18 hc5 (wh 48 (we (then_n (x_to hJ1 (VS.sm 37778931862957161708483) ⟨false,(some true),(some (a0.Client==a1.Client)),(some (a0.Client==a1.Client)),(some false),none,(some false),(some false),none,(some false),(some false),none,(some false),(some false),none,(some false),(some false),none,(some false),rfl,rfl,hF⟩))))
 exact wF 11 hc4 (wh 48 (we (then_n (x_to hJ1 (VS.sm 37778931862957161708483) ⟨false,(some false),none,(some false),(some false),none,(some false),(some false),none,(some false),(some false),none,(some false),(some false),none,(some false),(some false),none,(some false),rfl,rfl,hF⟩))))
def msg_right_J1 (p36 : Bool) : Option Bool :=
  some p36
def msg_right (a0 : Int) (a1 : Submit) (a2 : Reply) (a3 : List UInt8) (a4 : Arr 32) (a5 : Arr 32) (a6 : Blob) (a7 : Sl Int) : Option Bool :=
  (msg_own a0 a1 a2 a3 a4 a5 a6 a7).bind fun y33=>if y33.2=true then (msg_client a0).bind fun y43=>if y43=true then (msg_Same y33.1 (⟨1,a0,a1,a2,a3,0,a4,a5,a6,a7⟩ : Msg)).bind fun y44=>msg_right_J1 y44 else msg_right_J1 false else msg_right_J1 false
theorem msg_right_ev {a0 : Int} {a1 : Submit} {a2 : Reply} {a3 : List UInt8} {a4 : Arr 32} {a5 : Arr 32} {a6 : Blob} {a7 : Sl Int} {r : Bool} (hF : msg_right a0 a1 a2 a3 a4 a5 a6 a7=some r) : EvCall Tryz.prog T G0 123 [.agg ((cI .i64) 1++(cI .i64) a0++cSubmit a1++cReply a2++cS a3++(cI .i64) 0++(cA .u8) a4++(cA .u8) a5++cBlob a6++(cL (cI .i64)) a7)] [] (fun v H'=>v=.bool r∧H'=[]):=by
 refine xc Tryz.func123 ?_
 refine xq (wr 2 [.cells (((cI .i64) 1++(cI .i64) a0++cSubmit a1++cReply a2++cS a3++(cI .i64) 0++(cA .u8) a4++(cA .u8) a5++cBlob a6++(cL (cI .i64)) a7))] (we (ng (xq (wh 1 (bind_elim hF (fun y33 hy33 hF=>uC (msg_own_ev hy33) (lows_cons (low_agg (lows_app (lows_app (lows_app (lows_app (lows_app (lows_app (lows_app (lows_app (lows_app (low_cI _) (low_cI _)) (low_cSubmit _)) (low_cReply _)) (low_cS _)) (low_cI _)) (low_cA _)) (low_cA _)) (low_cBlob _)) ((low_cL low_cI) _))) rfl) (low_tup (lows_cons (low_agg (low_cMsg _)) (lows_cons rfl rfl))) (wr 8 [.cells (((cI .i64) 1++(cI .i64) a0++cSubmit a1++cReply a2++cS a3++(cI .i64) 0++(cA .u8) a4++(cA .u8) a5++cBlob a6++(cL (cI .i64)) a7)),.cells (cMsg y33.1)] (we (ng ?_))))))))))
 refine xj (fun fr H=>∃ (p36 : Bool) (g37 : Option Bool) (g38 : Option Bool) (g39 : Option Bool) (g40 : Option Bool) (g41 : Option Bool) (g42 : Option Bool),fr=[.any,.any,.bool p36,.any,.bool y33.2,.any,.any,.any,.any,.bool y33.2,.bool y33.2,junkB g37,.any,.any,junkB g38,junkB g39,junkB g40,.any,.any,junkB g41,junkB g42]∧H=[]∧msg_right_J1 p36=some r) (fun fr H ⟨p36,g37,g38,g39,g40,g41,g42,e1,e2,hF⟩=>?_) (fun hJ1=>?_)
 ·subst e1 e2
  refine xt ?_
  cases hF
  exact fE [] (.inl rfl) rfl ⟨rfl,rfl⟩
 refine xr (wh 2 ?_)
 refine ite_elim hF (fun hc1 hF=>?_) (fun hc1 hF=>?_)
 ·refine wT 11 hc1 (wh 4 (bind_elim hF (fun y43 hy43 hF=>uC (msg_client_ev hy43) (lows_cons rfl rfl) rfl (wh 7 ?_))))
  refine ite_elim hF (fun hc2 hF=>?_) (fun hc2 hF=>?_)
  ·exact wT 16 hc2 (wh 9 (bind_elim hF (fun y44 hy44 hF=>uC (msg_Same_ev hy44) (lows_cons (low_agg (low_cMsg _)) (lows_cons (low_agg (low_cMsg _)) rfl)) rfl (wh 12 (we (then_n (x_to hJ1 (VS.si [] 2095595 (by kernel_rfl) shh_nil) ⟨y44,(some true),(some y43),(some y43),(some true),(some y44),(some y44),rfl,rfl,hF⟩)))))))
  exact wF 16 hc2 (wh 12 (we (then_n (x_to hJ1 (VS.si [] 2095595 (by kernel_rfl) shh_nil) ⟨false,(some true),(some y43),(some y43),(some false),none,(some false),rfl,rfl,hF⟩))))
 exact wF 11 hc1 (wh 12 (we (then_n (x_to hJ1 (VS.si [] 2095595 (by kernel_rfl) shh_nil) ⟨false,(some false),none,(some false),(some false),none,(some false),rfl,rfl,hF⟩))))
def msg_writer_text (a0 : List UInt8) (a1 : Sl Int) : Option (Sl Int) :=
  (lay_Text a0).bind fun y51=>(appL 1 a1 (intsS y51.1)).bind fun y52=>some y52
theorem msg_writer_text_ev {a0 : List UInt8} {a1 : Sl Int} {r : (Sl Int)} (hF : msg_writer_text a0 a1=some r) : EvCall Tryz.prog T G0 124 [.ptr 0 0,.str a0] [.cells ([rfv false a1 1 1]),rfb (cI .u8) a1] (fun v H'=>v=.tup []∧H'=[.cells ([rfv false r 2 1]),.dead,rfb (cI .u8) r]):=by
 refine xc Tryz.func124 ?_
 refine xq (wh 1 (bind_elim hF (fun y51 hy51 hF=>uC (lay_Text_ev hy51) (lows_cons rfl rfl) (low_tup (lows_cons rfl (lows_cons rfl rfl))) (wh 7 (we (ng (xr (wh 6 (bind_elim hF (fun y52 hy52 hF=>w_rapp (cI .u8) (e:=5) (l:=1) (ex:=false) (y:=.str y51.1) (sz:=1) (x:=a1) (ys:=(intsS y51.1)) hy52 (by kernel_rfl) (by decide) (fun _=>rfl) (by kernel_rfl) (gives_str (by kernel_rfl)) (wr 10 [.cells ([rfv false y52 2 1]),.dead,rfb (cI .u8) y52] (we ?_))))))))))))
 cases hF
 exact fS [0,1,2] (.inr rfl) rfl (sk rfl (shh rfl (shb_dead (by kernel_rfl)) (sr low_cI rfl shh_nil))) ⟨rfl,rfl⟩
def msg_writer_digests_B72 (a0 : Sl (Arr 32)) (k72 : ((Sl Int)×Int)→Option (Sl Int)) (x72 : (Sl Int)×Int) : Option (Sl Int) :=
  if iLt x72.2 (a0.l.length : Int)=true then (idxL a0.l x72.2).bind fun y76=>(mac_Bytes y76).bind fun y77=>(msg_writer_text y77 x72.1).bind fun y78=>k72 (y78,iAdd .i64 x72.2 1) else some x72.1
def msg_writer_digests (a0 : Sl (Arr 32)) (a1 : Sl Int) : Option (Sl Int) :=
  loopN (msg_writer_digests_B72 a0) FUEL (a1,0)
theorem msg_writer_digests_ev {a0 : Sl (Arr 32)} {a1 : Sl Int} {r : (Sl Int)} (hF : msg_writer_digests a0 a1=some r) : EvCall Tryz.prog T G0 125 [.ptr 0 0,sl (cA .u8) a0] [.cells ([rfv false a1 1 1]),rfb (cI .u8) a1] (fun v H'=>v=.tup []∧H'=[.cells ([rfv false r 2 1]),.dead,rfb (cI .u8) r]):=by
 refine xc Tryz.func125 ?_
 refine xq (wh 3 (we (ng (xb (x_loop (fun d fr H=>∃ (x72 : (Sl Int)×Int) (g62 : Option Bool),fr=[.ptr 0 0,.any,.any,.any,.any,.any,sl (cA .u8) a0,.int .i64 (a0.l.length : Int),.int .i64 x72.2,junkB g62,.any,.any,.any,.any,.any,.any,.any]∧H=[.cells ([rfv false x72.1 2 1]),.dead,rfb (cI .u8) x72.1]∧loopN (msg_writer_digests_B72 a0) d x72=some r) (by kernel_rfl) (fun fr H ⟨x72,g62,e1,e2,hF⟩=>loop_no hF) (fun d72 fr H ⟨x72,g62,e1,e2,hF⟩=>?_) (VS.trans (VS.move (cI .u8) a1 1 [] [0] (by kernel_rfl) (by kernel_rfl)) (VS.sm 130622)) ⟨(a1,0),none,rfl,rfl,hF⟩)))))
 subst e1 e2
 have hF:=loop_in hF
 refine xq (wh 1 (we (ng (xs ?_))))
 refine ite_elim hF (fun hc1 hF=>?_) (fun hc1 hF=>?_)
 ·exact kT 9 hc1 (xT (xk (ng (xs (xb (xq (bind_elim hF (fun y76 hy76 hF=>uI (cA .u8) 32 hy76 (fun _=>rfl) (uE (cA .u8) 0 (t:=23) (v:=.agg ((cA .u8) y76)) 32 32 hy76 (fun _=>rfl) (wr 4 [.cells ([rfv false x72.1 2 1]),.dead,rfb (cI .u8) x72.1,.cells ((cA .u8) y76)] (we (ng (xr (wh 2 (bind_elim hF (fun y77 hy77 hF=>uC (mac_Bytes_ev hy77) (lows_cons (low_agg (low_cA _)) rfl) rfl (bind_elim hF (fun y78 hy78 hF=>uO [0,2] [0,2,4] (v:=.tup []) [.cells ([rfv false y78 4 1]),.dead,rfb (cI .u8) y78] [.cells ([rfv false y78 4 1]),.dead,.dead,.cells ((cA .u8) y76),rfb (cI .u8) y78] (msg_writer_text_ev hy78) (by kernel_rfl) (pl (b':=.cells ([rfv false x72.1 2 1])) (by kernel_rfl) (sb_cells (by kernel_rfl) (by kernel_rfl) (by kernel_rfl)) (pl (b':=rfb (cI .u8) x72.1) (by kernel_rfl) (sb_low (noref_rfb low_cI _)) pl_nil)) rfl (sbs (sb_cells (by kernel_rfl) (by kernel_rfl) (by kernel_rfl)) (sbs sb_dead (sbs (sb_low (noref_rfb low_cI _)) sbs_nil))) (we (block_n (ng (xr (wh 2 (we (then_n (x_back (VS.si [0,1,4] 130622 (tights_at [6] (by kernel_rfl) (by exact ⟨(tight_sl low_cA),trivial⟩)) (sk rfl (shh rfl (shb_dead (by kernel_rfl)) (sr low_cI rfl shh_nil)))) ⟨(y78,iAdd .i64 x72.2 1),(some true),rfl,rfl,hF⟩))))))))))))))))))))))))))
 refine kF 9 hc1 (xF (xe (then_e (then_e (block_e ?_)))))
 cases hF
 exact fS [0,1,2] (.inr rfl) rfl (sk rfl (shh rfl (shb_dead (by kernel_rfl)) (sr low_cI rfl shh_nil))) ⟨rfl,rfl⟩
def msg_Put (a0 : Int) (a1 : Submit) (a2 : Reply) (a3 : List UInt8) (a4 : Arr 32) (a5 : Arr 32) (a6 : Blob) (a7 : Sl Int) : Option ((List UInt8)×Int) :=
  (msg_right a0 a1 a2 a3 a4 a5 a6 a7).bind fun y34=>if y34=true then (msg_writer_ints (⟨false,true,[1]⟩ : Sl Int) (⟨true,true,[]⟩ : Sl Int)).bind fun y35=>(msg_writer_ints (⟨false,true,[a0]⟩ : Sl Int) y35).bind fun y37=>(msg_writer_ints (⟨false,true,[a1.Number,a1.Kind,a1.Target]⟩ : Sl Int) y37).bind fun y41=>(msg_writer_text a1.Value y41).bind fun y42=>(msg_writer_digests (⟨false,true,[a1.Asked,a1.Data]⟩ : Sl (Arr 32)) y42).bind fun y43=>some (bytesS y43.l,0) else some ([],2)
theorem msg_Put_ev {a0 : Int} {a1 : Submit} {a2 : Reply} {a3 : List UInt8} {a4 : Arr 32} {a5 : Arr 32} {a6 : Blob} {a7 : Sl Int} {r : (List UInt8)×Int} (hF : msg_Put a0 a1 a2 a3 a4 a5 a6 a7=some r) : EvCall Tryz.prog T G0 94 [.agg ((cI .i64) 1++(cI .i64) a0++cSubmit a1++cReply a2++cS a3++(cI .i64) 0++(cA .u8) a4++(cA .u8) a5++cBlob a6++(cL (cI .i64)) a7)] [] (fun v H'=>v=.tup [.str r.1,.int .i64 r.2]∧H'=[]):=by
 refine xc Tryz.func94 ?_
 refine xq (wr 3 [.cells (((cI .i64) 1++(cI .i64) a0++cSubmit a1++cReply a2++cS a3++(cI .i64) 0++(cA .u8) a4++(cA .u8) a5++cBlob a6++(cL (cI .i64)) a7))] (we (ng (xs (xq (wh 1 (bind_elim hF (fun y34 hy34 hF=>uC (msg_right_ev hy34) (lows_cons (low_agg (lows_app (lows_app (lows_app (lows_app (lows_app (lows_app (lows_app (lows_app (lows_app (low_cI _) (low_cI _)) (low_cSubmit _)) (low_cReply _)) (low_cS _)) (low_cI _)) (low_cA _)) (low_cA _)) (low_cBlob _)) ((low_cL low_cI) _))) rfl) rfl (wh 3 (we (ng ?_)))))))))))
 refine ite_elim hF (fun hc1 hF=>?_) (fun hc1 hF=>?_)
 ·refine kF 9 (show (!y34)=false by rw [hc1]; rfl) (xF (xk (ng (xq (wr 3 [.cells (((cI .i64) 1++(cI .i64) a0++cSubmit a1++cReply a2++cS a3++(cI .i64) 0++(cA .u8) a4++(cA .u8) a5++cBlob a6++(cL (cI .i64)) a7)),.cells (cMsg_writer (⟨(⟨true,true,[]⟩ : Sl Int)⟩ : Msg_writer))] (we (ng (xq (wh 3 (w_frz (v:=sl (cI .i64) (⟨false,true,[1]⟩ : Sl Int)) (by kernel_rfl) (bind_elim hF (fun y35 hy35 hF=>uO [1] [1,2,3] (v:=.tup []) [.cells ([rfv false y35 3 1]),.dead,rfb (cI .u8) y35] [.cells (((cI .i64) 1++(cI .i64) a0++cSubmit a1++cReply a2++cS a3++(cI .i64) 0++(cA .u8) a4++(cA .u8) a5++cBlob a6++(cL (cI .i64)) a7)),.cells ([rfv false y35 3 1]),.dead,rfb (cI .u8) y35] (EvCall.pre (args:=[.ptr 0 0,sl (cI .i64) (⟨false,true,[1]⟩ : Sl Int)]) (H:=[.cells ((cL (cI .u8)) (⟨true,true,[]⟩ : Sl Int))]) (VS.thawC (cI .u8) 0 0 1 (cs:=(cL (cI .u8)) (⟨true,true,[]⟩ : Sl Int)) (by kernel_rfl) (by kernel_rfl)) (msg_writer_ints_ev hy35)) (tights_cons rfl (tights_cons (tight_sl low_cI) rfl)) (pl (b':=.cells ((cL (cI .u8)) (⟨true,true,[]⟩ : Sl Int))) (by kernel_rfl) (sb_cells (by kernel_rfl) (by kernel_rfl) (tights_lows ((low_cL low_cI) _))) pl_nil) rfl (sbs (sb_cells (by kernel_rfl) (by kernel_rfl) (by kernel_rfl)) (sbs sb_dead (sbs (sb_low (noref_rfb low_cI _)) sbs_nil))) (we (ng (xs (xq (wh 13 (we (ng (xT (xr (wh 3 (w_frz (v:=sl (cI .i64) (⟨false,true,[a0]⟩ : Sl Int)) (by kernel_rfl) (bind_elim hF (fun y37 hy37 hF=>uO [1,3] [1,3,4] (v:=.tup []) [.cells ([rfv false y37 4 1]),.dead,rfb (cI .u8) y37] [.cells (((cI .i64) 1++(cI .i64) a0++cSubmit a1++cReply a2++cS a3++(cI .i64) 0++(cA .u8) a4++(cA .u8) a5++cBlob a6++(cL (cI .i64)) a7)),.cells ([rfv false y37 4 1]),.dead,.dead,rfb (cI .u8) y37] (msg_writer_ints_ev hy37) (tights_cons rfl (tights_cons (tight_sl low_cI) rfl)) (pl (b':=.cells ([rfv false y35 3 1])) (by kernel_rfl) (sb_cells (by kernel_rfl) (by kernel_rfl) (by kernel_rfl)) (pl (b':=rfb (cI .u8) y35) (by kernel_rfl) (sb_low (noref_rfb low_cI _)) pl_nil)) rfl (sbs (sb_cells (by kernel_rfl) (by kernel_rfl) (by kernel_rfl)) (sbs sb_dead (sbs (sb_low (noref_rfb low_cI _)) sbs_nil))) (we (ng (xs (xq (wh 2 (we ?_)))))))))))))))))))))))))))))))
  refine ng (xb (xq (wh 2 (we (ng (xT (xq (wh 10 (w_frz (v:=sl (cI .i64) (⟨false,true,[a1.Number,a1.Kind,a1.Target]⟩ : Sl Int)) (by kernel_rfl) (bind_elim hF (fun y41 hy41 hF=>uO [1,4] [1,4,5] (v:=.tup []) [.cells ([rfv false y41 5 1]),.dead,rfb (cI .u8) y41] [.cells (((cI .i64) 1++(cI .i64) a0++cSubmit a1++cReply a2++cS a3++(cI .i64) 0++(cA .u8) a4++(cA .u8) a5++cBlob a6++(cL (cI .i64)) a7)),.cells ([rfv false y41 5 1]),.dead,.dead,.dead,rfb (cI .u8) y41] (msg_writer_ints_ev hy41) (tights_cons rfl (tights_cons (tight_sl low_cI) rfl)) (pl (b':=.cells ([rfv false y37 4 1])) (by kernel_rfl) (sb_cells (by kernel_rfl) (by kernel_rfl) (by kernel_rfl)) (pl (b':=rfb (cI .u8) y37) (by kernel_rfl) (sb_low (noref_rfb low_cI _)) pl_nil)) rfl (sbs (sb_cells (by kernel_rfl) (by kernel_rfl) (by kernel_rfl)) (sbs sb_dead (sbs (sb_low (noref_rfb low_cI _)) sbs_nil))) (we (ng (xq (wh 4 (bind_elim hF (fun y42 hy42 hF=>uO [1,5] [1,5,6] (v:=.tup []) [.cells ([rfv false y42 6 1]),.dead,rfb (cI .u8) y42] [.cells (((cI .i64) 1++(cI .i64) a0++cSubmit a1++cReply a2++cS a3++(cI .i64) 0++(cA .u8) a4++(cA .u8) a5++cBlob a6++(cL (cI .i64)) a7)),.cells ([rfv false y42 6 1]),.dead,.dead,.dead,.dead,rfb (cI .u8) y42] (msg_writer_text_ev hy42) (by kernel_rfl) (pl (b':=.cells ([rfv false y41 5 1])) (by kernel_rfl) (sb_cells (by kernel_rfl) (by kernel_rfl) (by kernel_rfl)) (pl (b':=rfb (cI .u8) y41) (by kernel_rfl) (sb_low (noref_rfb low_cI _)) pl_nil)) rfl (sbs (sb_cells (by kernel_rfl) (by kernel_rfl) (by kernel_rfl)) (sbs sb_dead (sbs (sb_low (noref_rfb low_cI _)) sbs_nil))) (we (ng (xr (wh 7 (w_frz (v:=sl (cA .u8) (⟨false,true,[a1.Asked,a1.Data]⟩ : Sl (Arr 32))) (by kernel_rfl) (bind_elim hF (fun y43 hy43 hF=>uO [1,6] [1,6,7] (v:=.tup []) [.cells ([rfv false y43 7 1]),.dead,rfb (cI .u8) y43] [.cells (((cI .i64) 1++(cI .i64) a0++cSubmit a1++cReply a2++cS a3++(cI .i64) 0++(cA .u8) a4++(cA .u8) a5++cBlob a6++(cL (cI .i64)) a7)),.cells ([rfv false y43 7 1]),.dead,.dead,.dead,.dead,.dead,rfb (cI .u8) y43] (msg_writer_digests_ev hy43) (tights_cons rfl (tights_cons (tight_sl low_cA) rfl)) (pl (b':=.cells ([rfv false y42 6 1])) (by kernel_rfl) (sb_cells (by kernel_rfl) (by kernel_rfl) (by kernel_rfl)) (pl (b':=rfb (cI .u8) y42) (by kernel_rfl) (sb_low (noref_rfb low_cI _)) pl_nil)) rfl (sbs (sb_cells (by kernel_rfl) (by kernel_rfl) (by kernel_rfl)) (sbs sb_dead (sbs (sb_low (noref_rfb low_cI _)) sbs_nil))) (we (block_n (ng (xq (wh 4 (w_rowstr (l:=7) (ex:=false) y43 (wh 7 (we ?_))))))))))))))))))))))))))))))))
  refine ng (xt ?_)
  cases hF
  exact fE [] (.inl rfl) (low_tup (lows_cons rfl (lows_cons rfl rfl))) ⟨rfl,rfl⟩
 refine kT 9 (show (!y34)=true by rw [hc1]; rfl) (xT (xq (wh 2 (we (ng (xt (then_r ?_)))))))
 cases hF
 exact fE [] (.inl rfl) (low_tup (lows_cons rfl (lows_cons rfl rfl))) ⟨rfl,rfl⟩
def hist_Right_J2 (p168 : Bool) : Option Bool :=
  some p168
def hist_Right_J1 (a0 : List UInt8) (a1 : Int) : Option Bool :=
  if iLe (a0.length : Int) 512=true then if iGe a1 1=true then hist_Right_J2 (iLe a1 256) else hist_Right_J2 false else hist_Right_J2 false
def hist_Right_B185 (a0 : List UInt8) (a1 : Int) (k185 : Int→Option Bool) (x185 : Int) : Option Bool :=
  if iLt x185 (a0.length : Int)=true then (idxB a0 x185).bind fun y187=>if iGe (IntKind.wrap .i64 y187) a1=true then some false else k185 (iAdd .i64 x185 1) else hist_Right_J1 a0 a1
def hist_Right (a0 : List UInt8) (a1 : Int) : Option Bool :=
  loopN (hist_Right_B185 a0 a1) FUEL 0
theorem hist_Right_ev {a0 : List UInt8} {a1 : Int} {r : Bool} (hF : hist_Right a0 a1=some r) : EvCall Tryz.prog T G0 99 [.str a0,.int .i64 a1] [] (fun v H'=>v=.bool r∧H'=[]):=by
 refine xc Tryz.func99 ?_
 refine xq (wh 1 (we (ng ?_)))
 refine xj (fun fr H=>∃ (g167 : Option Bool),fr=[.str a0,.int .i64 a1,.any,.any,.bool false,.any,.any,.any,.any,.bool false,.any,.any,.any,.any,.any,.any,junkB g167,.any,.any,.any,.any,.any,.any,.any,.any,.any,.any,.any,.any]∧H=[]∧hist_Right_J1 a0 a1=some r) (fun fr H ⟨g167,e1,e2,hF⟩=>?_) (fun hJ1=>?_)
 ·subst e1 e2
  refine xj (fun fr H=>∃ (p168 : Bool) (g169 : Option Bool) (g170 : Option Bool) (g171 : Option Bool) (g172 : Option Bool) (g173 : Option Bool) (g174 : Option Bool),fr=[.any,.any,.any,.any,.bool p168,.any,.any,.any,.any,.bool false,.any,.any,.any,.any,.any,.any,junkB g167,.any,.any,.any,.bool (iLe (a0.length : Int) 512),junkB g169,.any,junkB g170,junkB g171,junkB g172,.any,junkB g173,junkB g174]∧H=[]∧hist_Right_J2 p168=some r) (fun fr H ⟨p168,g169,g170,g171,g172,g173,g174,e1,e2,hF⟩=>?_) (fun hJ2=>?_)
  ·subst e1 e2
   refine xt ?_
   cases hF
   exact fE [] (.inl rfl) rfl ⟨rfl,rfl⟩
  refine xr (wh 4 ?_)
  refine ite_elim hF (fun hc1 hF=>?_) (fun hc1 hF=>?_)
  ·refine wT 21 hc1 (wh 8 ?_)
   refine ite_elim hF (fun hc2 hF=>?_) (fun hc2 hF=>?_)
   ·exact wT 25 hc2 (wh 12 (we (then_n (x_to hJ2 (VS.sm 535756271) ⟨iLe a1 256,(some true),(some (iGe a1 1)),(some (iGe a1 1)),(some true),(some (iLe a1 256)),(some (iLe a1 256)),rfl,rfl,hF⟩))))
   exact wF 25 hc2 (wh 12 (we (then_n (x_to hJ2 (VS.sm 535756271) ⟨false,(some true),(some (iGe a1 1)),(some (iGe a1 1)),(some false),none,(some false),rfl,rfl,hF⟩))))
  exact wF 21 hc1 (wh 12 (we (then_n (x_to hJ2 (VS.sm 535756271) ⟨false,(some false),none,(some false),(some false),none,(some false),rfl,rfl,hF⟩))))
 refine xq (wh 3 (we (ng (xb (x_loop (fun d fr H=>∃ (x185 : Int) (g178 : Option Bool) (g179 : Option Bool),fr=[.str a0,.int .i64 a1,.any,.any,.bool false,.any,.any,.int .i64 (a0.length : Int),.int .i64 x185,junkB g178,.any,.any,.any,.any,.any,.any,junkB g179,.any,.any,.any,.any,.any,.any,.any,.any,.any,.any,.any,.any]∧H=[]∧loopN (hist_Right_B185 a0 a1) d x185=some r) (by kernel_rfl) (fun fr H ⟨x185,g178,g179,e1,e2,hF⟩=>loop_no hF) (fun d185 fr H ⟨x185,g178,g179,e1,e2,hF⟩=>?_) (VS.sm 536870508) ⟨0,none,none,rfl,rfl,hF⟩)))))
 subst e1 e2
 have hF:=loop_in hF
 refine xq (wh 1 (we (ng (xs ?_))))
 refine ite_elim hF (fun hc3 hF=>?_) (fun hc3 hF=>?_)
 ·refine kT 9 hc3 (xT (xk (ng (xs (xb (xq (wh 2 (we (ng (xq (wh 2 (bind_elim hF (fun y187 hy187 hF=>w_idx (by kernel_rfl) hy187 (wh 6 (we (ng ?_))))))))))))))))
  refine ite_elim hF (fun hc4 hF=>?_) (fun hc4 hF=>?_)
  ·refine kT 16 hc4 (xT (xq (wh 1 (we (ng (xt (block_r (then_r (then_r (block_r (then_r ?_)))))))))))
   cases hF
   exact fE [] (.inl rfl) rfl ⟨rfl,rfl⟩
  exact kF 16 hc4 (xF (xk (block_n (ng (xr (wh 2 (we (then_n (x_back (VS.sm 536870508) ⟨iAdd .i64 x185 1,(some true),(some false),rfl,rfl,hF⟩)))))))))
 exact kF 9 hc3 (xF (xe (then_e (then_e (block_e (then_n (x_to hJ1 (VS.sm 536804844) ⟨g179,rfl,rfl,hF⟩)))))))
def msg_view (a0 : List UInt8) : Option Bool :=
  (hist_Right a0 8).bind fun y154=>some y154
theorem msg_view_ev {a0 : List UInt8} {r : Bool} (hF : msg_view a0=some r) : EvCall Tryz.prog T G0 154 [.str a0] [] (fun v H'=>v=.bool r∧H'=[]):=by
 refine xc Tryz.func154 ?_
 refine xq (wh 1 (we (ng (xq (wh 1 (bind_elim hF (fun y154 hy154 hF=>uC (hist_Right_ev hy154) (lows_cons rfl (lows_cons rfl rfl)) rfl (wh 3 (we (ng (xt ?_)))))))))))
 cases hF
 exact fE [] (.inl rfl) rfl ⟨rfl,rfl⟩
def msg_reply_J2 (p157 : Bool) : Option Bool :=
  some p157
def msg_reply_J1 (a0 : Reply) : Option Bool :=
  (msg_number a0.Number).bind fun y152=>if y152=true then (msg_within a0.Last (-1) 7).bind fun y153=>if y153=true then if ((a0.View==[])==(a0.Last==(-1)))=true then if iGt (a0.Pending.l.length : Int) 8=true then some false else (msg_view a0.View).bind fun y168=>if y168=true then (msg_view a0.Seen).bind fun y169=>if y169=true then (msg_within a0.ValueNumber 0 512).bind fun y170=>if y170=true then msg_reply_J2 (iLe (a0.Value.length : Int) 256) else msg_reply_J2 false else msg_reply_J2 false else msg_reply_J2 false else some false else some false else some false
def msg_reply_B239 (a0 : Reply) (k239 : Int→Option Bool) (x239 : Int) : Option Bool :=
  if iLt x239 (a0.Pending.l.length : Int)=true then (idxL a0.Pending.l x239).bind fun y249=>(msg_client y249.Client).bind fun y254=>if y254=true then (msg_client y249.Target).bind fun y255=>if y255=true then (msg_number y249.Number).bind fun y256=>if y256=true then (msg_kind y249.Kind).bind fun y257=>if y257=true then k239 (iAdd .i64 x239 1) else some false else some false else some false else some false else msg_reply_J1 a0
def msg_reply (a0 : Reply) : Option Bool :=
  loopN (msg_reply_B239 a0) FUEL 0
theorem msg_reply_ev {a0 : Reply} {r : Bool} (hF : msg_reply a0=some r) : EvCall Tryz.prog T G0 153 [.agg (cReply a0)] [] (fun v H'=>v=.bool r∧H'=[]):=by
 refine xc Tryz.func153 ?_
 refine xq (wr 2 [.cells (cReply a0)] (we (ng ?_)))
 refine xj (fun fr H=>∃ (g132 : Option Bool) (g133 : Option Bool) (g134 : Option Bool) (g135 : Option Bool) (g136 : Option Bool) (g137 : Option Bool) (g138 : Option Bool) (g139 : Option Bool) (g140 : Option Bool) (g141 : Option Bool) (g142 : Option Bool) (g143 : Option Bool) (g144 : Option Bool) (g145 : Option Bool),fr=[.any,.ptr 0 0,.bool false,.any,.any,.any,.any,.any,.any,.bool false,.any,.any,.any,.any,junkB g132,junkB g133,junkB g134,.any,.any,junkB g135,junkB g136,junkB g137,junkB g138,.any,.any,junkB g139,junkB g140,junkB g141,junkB g142,.any,.any,junkB g143,junkB g144,junkB g145,.any,.any,.any,.any,.any,.any,.any,.any,.any,.any,.any,.any,.any,.any,.any,.any,.any,.any,.any,.any,.any,.any,.any,.any,.any,.any,.any,.any,.any,.any,.any,.any,.any,.any,.any,.any,.any,.any,.any,.any,.any,.any,.any,.any,.any]∧H=[.cells (cReply a0)]∧msg_reply_J1 a0=some r) (fun fr H ⟨g132,g133,g134,g135,g136,g137,g138,g139,g140,g141,g142,g143,g144,g145,e1,e2,hF⟩=>?_) (fun hJ1=>?_)
 ·subst e1 e2
  refine xs (xq (wh 2 (bind_elim hF (fun y152 hy152 hF=>uC (msg_number_ev hy152) (lows_cons rfl rfl) rfl (wh 5 ?_)))))
  refine ite_elim hF (fun hc1 hF=>?_) (fun hc1 hF=>?_)
  ·refine wF 39 (show (!y152)=false by rw [hc1]; rfl) (wh 7 (bind_elim hF (fun y153 hy153 hF=>uC (msg_within_ev hy153) (lows_cons rfl (lows_cons rfl (lows_cons rfl rfl))) rfl (wh 11 ?_))))
   refine ite_elim hF (fun hc2 hF=>?_) (fun hc2 hF=>?_)
   ·refine wF 45 (show (!y153)=false by rw [hc2]; rfl) (wh 20 ?_)
    refine ite_elim hF (fun hc3 hF=>?_) (fun hc3 hF=>?_)
    ·refine wF 54 (show (!((a0.View==[])==(a0.Last==(-1))))=false by rw [hc3]; rfl) (wh 25 (we (ng ?_)))
     refine ite_elim hF (fun hc4 hF=>?_) (fun hc4 hF=>?_)
     ·refine kT 59 hc4 (xT (xq (wh 1 (we (ng (xt (then_r ?_)))))))
      cases hF
      exact fE [] (.inl rfl) rfl ⟨rfl,rfl⟩
     refine kF 59 hc4 (xF (xk (ng ?_)))
     refine xj (fun fr H=>∃ (p157 : Bool) (g158 : Option Bool) (g159 : Option Bool) (g160 : Option Bool) (g161 : Option Bool) (g162 : Option Bool) (g163 : Option Bool) (g164 : Option Bool) (g165 : Option Bool) (g166 : Option Bool) (g167 : Option Bool),fr=[.any,.any,.bool p157,.any,.any,.any,.any,.any,.any,.bool false,.any,.any,.any,.any,junkB g132,junkB g133,junkB g134,.any,.any,junkB g135,junkB g136,junkB g137,junkB g138,.any,.any,junkB g139,junkB g140,junkB g141,junkB g142,.any,.any,junkB g143,junkB g144,junkB g145,.any,.any,.any,.bool y152,.bool (!y152),.bool false,.any,.any,.bool y153,.bool (!y153),.bool (!y153),.bool false,.any,.any,.bool (a0.View==[]),.any,.any,.bool (a0.Last==(-1)),.bool (!((a0.View==[])==(a0.Last==(-1)))),.bool (!((a0.View==[])==(a0.Last==(-1)))),.bool false,.any,.any,.any,.bool (iGt (a0.Pending.l.length : Int) 8),.bool false,.any,.any,junkB g158,junkB g159,.any,.any,junkB g160,junkB g161,junkB g162,.any,.any,junkB g163,junkB g164,junkB g165,.any,.any,.any,junkB g166,junkB g167]∧H=[]∧msg_reply_J2 p157=some r) (fun fr H ⟨p157,g158,g159,g160,g161,g162,g163,g164,g165,g166,g167,e1,e2,hF⟩=>?_) (fun hJ2=>?_)
     ·subst e1 e2
      refine xt ?_
      cases hF
      exact fE [] (.inl rfl) rfl ⟨rfl,rfl⟩
     refine xr (wh 2 (bind_elim hF (fun y168 hy168 hF=>uC (msg_view_ev hy168) (lows_cons rfl rfl) rfl (wh 4 ?_))))
     refine ite_elim hF (fun hc5 hF=>?_) (fun hc5 hF=>?_)
     ·refine wT 63 hc5 (wh 6 (bind_elim hF (fun y169 hy169 hF=>uC (msg_view_ev hy169) (lows_cons rfl rfl) rfl (wh 9 ?_))))
      refine ite_elim hF (fun hc6 hF=>?_) (fun hc6 hF=>?_)
      ·refine wT 68 hc6 (wh 11 (bind_elim hF (fun y170 hy170 hF=>uC (msg_within_ev hy170) (lows_cons rfl (lows_cons rfl (lows_cons rfl rfl))) rfl (wh 14 ?_))))
       refine ite_elim hF (fun hc7 hF=>?_) (fun hc7 hF=>?_)
       ·exact wT 73 hc7 (wh 20 (we (then_n (x_to hJ2 (VS.shX [] 604462010990765636206075 [14,15,16,19,20,21,22,25,26,27,28,31,32,33] (by kernel_rfl) (by kernel_rfl) (by kernel_rfl) (by exact ⟨low_junk g132,low_junk g133,low_junk g134,low_junk g135,low_junk g136,low_junk g137,low_junk g138,low_junk g139,low_junk g140,low_junk g141,low_junk g142,low_junk g143,low_junk g144,low_junk g145,trivial⟩) (tights_at [14,15,16,19,20,21,22,25,26,27,28,31,32,33] (by kernel_rfl) (by exact ⟨(tight_junk g132),(tight_junk g133),(tight_junk g134),(tight_junk g135),(tight_junk g136),(tight_junk g137),(tight_junk g138),(tight_junk g139),(tight_junk g140),(tight_junk g141),(tight_junk g142),(tight_junk g143),(tight_junk g144),(tight_junk g145),trivial⟩)) shh_nil) ⟨iLe (a0.Value.length : Int) 256,(some y168),(some true),(some y169),(some y169),(some true),(some y170),(some y170),(some true),(some (iLe (a0.Value.length : Int) 256)),(some (iLe (a0.Value.length : Int) 256)),rfl,rfl,hF⟩))))
       exact wF 73 hc7 (wh 20 (we (then_n (x_to hJ2 (VS.shX [] 604462010990765636206075 [14,15,16,19,20,21,22,25,26,27,28,31,32,33] (by kernel_rfl) (by kernel_rfl) (by kernel_rfl) (by exact ⟨low_junk g132,low_junk g133,low_junk g134,low_junk g135,low_junk g136,low_junk g137,low_junk g138,low_junk g139,low_junk g140,low_junk g141,low_junk g142,low_junk g143,low_junk g144,low_junk g145,trivial⟩) (tights_at [14,15,16,19,20,21,22,25,26,27,28,31,32,33] (by kernel_rfl) (by exact ⟨(tight_junk g132),(tight_junk g133),(tight_junk g134),(tight_junk g135),(tight_junk g136),(tight_junk g137),(tight_junk g138),(tight_junk g139),(tight_junk g140),(tight_junk g141),(tight_junk g142),(tight_junk g143),(tight_junk g144),(tight_junk g145),trivial⟩)) shh_nil) ⟨false,(some y168),(some true),(some y169),(some y169),(some true),(some y170),(some y170),(some false),none,(some false),rfl,rfl,hF⟩))))
      exact wF 68 hc6 (wh 20 (we (then_n (x_to hJ2 (VS.shX [] 604462010990765636206075 [14,15,16,19,20,21,22,25,26,27,28,31,32,33] (by kernel_rfl) (by kernel_rfl) (by kernel_rfl) (by exact ⟨low_junk g132,low_junk g133,low_junk g134,low_junk g135,low_junk g136,low_junk g137,low_junk g138,low_junk g139,low_junk g140,low_junk g141,low_junk g142,low_junk g143,low_junk g144,low_junk g145,trivial⟩) (tights_at [14,15,16,19,20,21,22,25,26,27,28,31,32,33] (by kernel_rfl) (by exact ⟨(tight_junk g132),(tight_junk g133),(tight_junk g134),(tight_junk g135),(tight_junk g136),(tight_junk g137),(tight_junk g138),(tight_junk g139),(tight_junk g140),(tight_junk g141),(tight_junk g142),(tight_junk g143),(tight_junk g144),(tight_junk g145),trivial⟩)) shh_nil) ⟨false,(some y168),(some true),(some y169),(some y169),(some false),none,(some false),(some false),none,(some false),rfl,rfl,hF⟩))))
     exact wF 63 hc5 (wh 20 (we (then_n (x_to hJ2 (VS.shX [] 604462010990765636206075 [14,15,16,19,20,21,22,25,26,27,28,31,32,33] (by kernel_rfl) (by kernel_rfl) (by kernel_rfl) (by exact ⟨low_junk g132,low_junk g133,low_junk g134,low_junk g135,low_junk g136,low_junk g137,low_junk g138,low_junk g139,low_junk g140,low_junk g141,low_junk g142,low_junk g143,low_junk g144,low_junk g145,trivial⟩) (tights_at [14,15,16,19,20,21,22,25,26,27,28,31,32,33] (by kernel_rfl) (by exact ⟨(tight_junk g132),(tight_junk g133),(tight_junk g134),(tight_junk g135),(tight_junk g136),(tight_junk g137),(tight_junk g138),(tight_junk g139),(tight_junk g140),(tight_junk g141),(tight_junk g142),(tight_junk g143),(tight_junk g144),(tight_junk g145),trivial⟩)) shh_nil) ⟨false,(some y168),(some false),none,(some false),(some false),none,(some false),(some false),none,(some false),rfl,rfl,hF⟩))))
    refine wT 54 (show (!((a0.View==[])==(a0.Last==(-1))))=true by rw [hc3]; rfl) (wh 25 (we (ng (xT (xq (wh 1 (we (ng (xt (then_r ?_))))))))))
    cases hF
    exact fE [] (.inl rfl) rfl ⟨rfl,rfl⟩
   refine wT 45 (show (!y153)=true by rw [hc2]; rfl) (wh 25 (we (ng (xT (xq (wh 1 (we (ng (xt (then_r ?_))))))))))
   cases hF
   exact fE [] (.inl rfl) rfl ⟨rfl,rfl⟩
  refine wT 39 (show (!y152)=true by rw [hc1]; rfl) (wh 25 (we (ng (xT (xq (wh 1 (we (ng (xt (then_r ?_))))))))))
  cases hF
  exact fE [] (.inl rfl) rfl ⟨rfl,rfl⟩
 refine xq (wh 4 (we (ng (xb (x_loop (fun d fr H=>∃ (x239 : Int) (g190 : Option Bool) (g191 : Option Bool) (g192 : Option Bool) (g193 : Option Bool) (g194 : Option Bool) (g195 : Option Bool) (g196 : Option Bool) (g197 : Option Bool) (g198 : Option Bool) (g199 : Option Bool) (g200 : Option Bool) (g201 : Option Bool) (g202 : Option Bool) (g203 : Option Bool) (g204 : Option Bool),fr=[.any,.ptr 0 0,.bool false,.any,.any,.any,sl cPending a0.Pending,.int .i64 (a0.Pending.l.length : Int),.int .i64 x239,junkB g190,.any,.any,.any,.any,junkB g191,junkB g192,junkB g193,.any,.any,junkB g194,junkB g195,junkB g196,junkB g197,.any,.any,junkB g198,junkB g199,junkB g200,junkB g201,.any,.any,junkB g202,junkB g203,junkB g204,.any,.any,.any,.any,.any,.any,.any,.any,.any,.any,.any,.any,.any,.any,.any,.any,.any,.any,.any,.any,.any,.any,.any,.any,.any,.any,.any,.any,.any,.any,.any,.any,.any,.any,.any,.any,.any,.any,.any,.any,.any,.any,.any,.any,.any]∧H=[.cells (cReply a0)]∧loopN (msg_reply_B239 a0) d x239=some r) (by kernel_rfl) (fun fr H ⟨x239,g190,g191,g192,g193,g194,g195,g196,g197,g198,g199,g200,g201,g202,g203,g204,e1,e2,hF⟩=>loop_no hF) (fun d239 fr H ⟨x239,g190,g191,g192,g193,g194,g195,g196,g197,g198,g199,g200,g201,g202,g203,g204,e1,e2,hF⟩=>?_) (VS.sm 604462909807314587352633) ⟨0,none,none,none,none,none,none,none,none,none,none,none,none,none,none,none,rfl,rfl,hF⟩)))))
 subst e1 e2
 have hF:=loop_in hF
 refine xq (wh 1 (we (ng (xs ?_))))
 refine ite_elim hF (fun hc8 hF=>?_) (fun hc8 hF=>?_)
 ·refine kT 9 hc8 (xT (xk (ng (xs (xb (xq (bind_elim hF (fun y249 hy249 hF=>uI cPending 68 hy249 len_cPending (uE cPending 0 (t:=46) (v:=.agg (cPending y249)) 68 68 hy249 len_cPending (wr 4 [.cells (cReply a0),.cells (cPending y249)] (we (ng (xq (wh 2 (bind_elim hF (fun y254 hy254 hF=>uC (msg_client_ev hy254) (lows_cons rfl rfl) rfl (wh 5 ?_)))))))))))))))))
  refine ite_elim hF (fun hc9 hF=>?_) (fun hc9 hF=>?_)
  ·refine wF 16 (show (!y254)=false by rw [hc9]; rfl) (wh 7 (bind_elim hF (fun y255 hy255 hF=>uC (msg_client_ev hy255) (lows_cons rfl rfl) rfl (wh 11 ?_))))
   refine ite_elim hF (fun hc10 hF=>?_) (fun hc10 hF=>?_)
   ·refine wF 22 (show (!y255)=false by rw [hc10]; rfl) (wh 13 (bind_elim hF (fun y256 hy256 hF=>uC (msg_number_ev hy256) (lows_cons rfl rfl) rfl (wh 17 ?_))))
    refine ite_elim hF (fun hc11 hF=>?_) (fun hc11 hF=>?_)
    ·refine wF 28 (show (!y256)=false by rw [hc11]; rfl) (wh 19 (bind_elim hF (fun y257 hy257 hF=>uC (msg_kind_ev hy257) (lows_cons rfl rfl) rfl (wh 22 (we (ng ?_))))))
     refine ite_elim hF (fun hc12 hF=>?_) (fun hc12 hF=>?_)
     ·exact kF 33 (show (!y257)=false by rw [hc12]; rfl) (xF (xk (block_n (ng (xr (wh 2 (we (then_n (x_back (VS.si [0] 604462909807314587352633 (tights_at [6] (by kernel_rfl) (by exact ⟨(tight_sl low_cPending),trivial⟩)) (st (tights_lows (low_cReply _)) rfl shh_nil)) ⟨iAdd .i64 x239 1,(some true),(some y254),(some (!y254)),(some false),(some y255),(some (!y255)),(some (!y255)),(some false),(some y256),(some (!y256)),(some (!y256)),(some false),(some y257),(some (!y257)),(some false),rfl,rfl,hF⟩)))))))))
     refine kT 33 (show (!y257)=true by rw [hc12]; rfl) (xT (xq (wh 1 (we (ng (xt (block_r (then_r (then_r (block_r (then_r ?_)))))))))))
     cases hF
     exact fE [] (.inl rfl) rfl ⟨rfl,rfl⟩
    refine wT 28 (show (!y256)=true by rw [hc11]; rfl) (wh 22 (we (ng (xT (xq (wh 1 (we (ng (xt (block_r (then_r (then_r (block_r (then_r ?_))))))))))))))
    cases hF
    exact fE [] (.inl rfl) rfl ⟨rfl,rfl⟩
   refine wT 22 (show (!y255)=true by rw [hc10]; rfl) (wh 22 (we (ng (xT (xq (wh 1 (we (ng (xt (block_r (then_r (then_r (block_r (then_r ?_))))))))))))))
   cases hF
   exact fE [] (.inl rfl) rfl ⟨rfl,rfl⟩
  refine wT 16 (show (!y254)=true by rw [hc9]; rfl) (wh 22 (we (ng (xT (xq (wh 1 (we (ng (xt (block_r (then_r (then_r (block_r (then_r ?_))))))))))))))
  cases hF
  exact fE [] (.inl rfl) rfl ⟨rfl,rfl⟩
 exact kF 9 hc8 (xF (xe (then_e (then_e (block_e (then_n (x_to hJ1 (VS.sm 604462909807299043671545) ⟨g191,g192,g193,g194,g195,g196,g197,g198,g199,g200,g201,g202,g203,g204,rfl,rfl,hF⟩)))))))
def msg_own_2 (a0 : Submit) (a1 : Reply) (a2 : List UInt8) (a3 : Arr 32) (a4 : Arr 32) (a5 : Blob) (a6 : Sl Int) : Option (Msg×Bool) :=
  (msg_reply a1).bind fun y50=>some ((⟨2,0,(⟨0,0,0,[],(Arr.zero 32),(Arr.zero 32)⟩ : Submit),a1,[],0,(Arr.zero 32),(Arr.zero 32),(⟨0,0,[],(Arr.zero 32)⟩ : Blob),(⟨true,true,[]⟩ : Sl Int)⟩ : Msg),y50)
theorem msg_own_2_ev {a0 : Submit} {a1 : Reply} {a2 : List UInt8} {a3 : Arr 32} {a4 : Arr 32} {a5 : Blob} {a6 : Sl Int} {r : Msg×Bool} (hF : msg_own_2 a0 a1 a2 a3 a4 a5 a6=some r) : EvCall Tryz.prog T G0 143 [.agg ((cI .i64) 2++(cI .i64) 0++cSubmit a0++cReply a1++cS a2++(cI .i64) 0++(cA .u8) a3++(cA .u8) a4++cBlob a5++(cL (cI .i64)) a6)] [] (fun v H'=>v=.tup [.agg (cMsg r.1),.bool r.2]∧H'=[]):=by
 refine xc Tryz.func143 ?_
 refine xq (wr 3 [.cells (((cI .i64) 2++(cI .i64) 0++cSubmit a0++cReply a1++cS a2++(cI .i64) 0++(cA .u8) a3++(cA .u8) a4++cBlob a5++(cL (cI .i64)) a6)),.cells (cMsg (⟨0,0,⟨0,0,0,[],(Arr.zero 32),(Arr.zero 32)⟩,⟨0,0,[],(Arr.zero 32),⟨true,true,[]⟩,0,[],(Arr.zero 32),[],(Arr.zero 32)⟩,[],0,(Arr.zero 32),(Arr.zero 32),⟨0,0,[],(Arr.zero 32)⟩,⟨true,true,[]⟩⟩ : Msg))] (we (ng (xq (wr 7 [.cells (((cI .i64) 2++(cI .i64) 0++cSubmit a0++cReply a1++cS a2++(cI .i64) 0++(cA .u8) a3++(cA .u8) a4++cBlob a5++(cL (cI .i64)) a6)),.cells (cMsg (⟨0,0,⟨0,0,0,[],(Arr.zero 32),(Arr.zero 32)⟩,⟨0,0,[],(Arr.zero 32),⟨true,true,[]⟩,0,[],(Arr.zero 32),[],(Arr.zero 32)⟩,[],0,(Arr.zero 32),(Arr.zero 32),⟨0,0,[],(Arr.zero 32)⟩,⟨true,true,[]⟩⟩ : Msg)),.cells (cMsg (⟨2,0,(⟨0,0,0,[],(Arr.zero 32),(Arr.zero 32)⟩ : Submit),(⟨0,0,[],(Arr.zero 32),⟨true,true,[]⟩,0,[],(Arr.zero 32),[],(Arr.zero 32)⟩ : Reply),[],0,(Arr.zero 32),(Arr.zero 32),(⟨0,0,[],(Arr.zero 32)⟩ : Blob),(⟨true,true,[]⟩ : Sl Int)⟩ : Msg))] (we (ng (xs (xq (wh 2 (we (ng (xb (xq (wh 2 (we (ng (xF (xq (wh 2 (we (ng (xT (xs (x_rows 6618578224131 23 [⟨3,[4],[0,1,4],[],[1]⟩,⟨5,[],[],[],[]⟩] call_ends callMono (by kernel_rfl) (by kernel_rfl) (wp 3 (we (rows_next (wr 1 [.cells (((cI .i64) 2++(cI .i64) 0++cSubmit a0++cReply a1++cS a2++(cI .i64) 0++(cA .u8) a3++(cA .u8) a4++cBlob a5++(cL (cI .i64)) a6)),.cells (cMsg (⟨0,0,⟨0,0,0,[],(Arr.zero 32),(Arr.zero 32)⟩,⟨0,0,[],(Arr.zero 32),⟨true,true,[]⟩,0,[],(Arr.zero 32),[],(Arr.zero 32)⟩,[],0,(Arr.zero 32),(Arr.zero 32),⟨0,0,[],(Arr.zero 32)⟩,⟨true,true,[]⟩⟩ : Msg)),.cells ((cI .i64) 2++(cI .i64) 0++cSubmit (⟨0,0,0,[],(Arr.zero 32),(Arr.zero 32)⟩ : Submit)++cReply (⟨0,0,[],(Arr.zero 32),⟨true,true,[]⟩,0,[],(Arr.zero 32),[],(Arr.zero 32)⟩ : Reply)++cS []++(cI .i64) 0++(cA .u8) (Arr.zero 32)++(cA .u8) (Arr.zero 32)++cBlob (⟨0,0,[],(Arr.zero 32)⟩ : Blob)++(cL (cI .i64)) (⟨true,true,[]⟩ : Sl Int))] ?_)))))))))))))))))))))))))))))
 refine we (⟨⟨(by kernel_rfl),chksC_of (by kernel_rfl) (by kernel_rfl)⟩,(wp 1 (we (rows_next (wr 1 [.cells (((cI .i64) 2++(cI .i64) 0++cSubmit a0++cReply a1++cS a2++(cI .i64) 0++(cA .u8) a3++(cA .u8) a4++cBlob a5++(cL (cI .i64)) a6)),.cells (cMsg (⟨0,0,⟨0,0,0,[],(Arr.zero 32),(Arr.zero 32)⟩,⟨0,0,[],(Arr.zero 32),⟨true,true,[]⟩,0,[],(Arr.zero 32),[],(Arr.zero 32)⟩,[],0,(Arr.zero 32),(Arr.zero 32),⟨0,0,[],(Arr.zero 32)⟩,⟨true,true,[]⟩⟩ : Msg)),.cells ((cI .i64) 2++(cI .i64) 0++cSubmit (⟨0,0,0,[],(Arr.zero 32),(Arr.zero 32)⟩ : Submit)++cReply a1++cS []++(cI .i64) 0++(cA .u8) (Arr.zero 32)++(cA .u8) (Arr.zero 32)++cBlob (⟨0,0,[],(Arr.zero 32)⟩ : Blob)++(cL (cI .i64)) (⟨true,true,[]⟩ : Sl Int))] (we (⟨⟨(by kernel_rfl),trivial⟩,(we (rows_done (de (ng (xs (x_rows 0 47 [⟨4,[5],[5],[],[]⟩] call_ends callMono (by kernel_rfl) (by kernel_rfl) (wp 3 (bind_elim hF (fun y50 hy50 hF=>uC (msg_reply_ev hy50) (lows_cons (low_agg (low_cReply _)) rfl) rfl (we (rows_next (wr 1 [.cells (((cI .i64) 2++(cI .i64) 0++cSubmit a0++cReply a1++cS a2++(cI .i64) 0++(cA .u8) a3++(cA .u8) a4++cBlob a5++(cL (cI .i64)) a6)),.cells (cMsg (⟨2,0,(⟨0,0,0,[],(Arr.zero 32),(Arr.zero 32)⟩ : Submit),a1,[],0,(Arr.zero 32),(Arr.zero 32),(⟨0,0,[],(Arr.zero 32)⟩ : Blob),(⟨true,true,[]⟩ : Sl Int)⟩ : Msg)),.cells ((cI .i64) 2++(cI .i64) 0++cSubmit (⟨0,0,0,[],(Arr.zero 32),(Arr.zero 32)⟩ : Submit)++cReply a1++cS []++(cI .i64) 0++(cA .u8) (Arr.zero 32)++(cA .u8) (Arr.zero 32)++cBlob (⟨0,0,[],(Arr.zero 32)⟩ : Blob)++(cL (cI .i64)) (⟨true,true,[]⟩ : Sl Int))] (we (⟨⟨(by kernel_rfl),trivial⟩,(wp 1 (we (rows_done (de (ng (xt (block_r (then_r ?_))))))))⟩))))))))))))))⟩))))))⟩)
 cases hF
 exact fE [] (.inl rfl) (low_tup (lows_cons (low_agg (low_cMsg _)) (lows_cons rfl rfl))) ⟨rfl,rfl⟩
def msg_right_2_J1 (p48 : Bool) : Option Bool :=
  some p48
def msg_right_2 (a0 : Submit) (a1 : Reply) (a2 : List UInt8) (a3 : Arr 32) (a4 : Arr 32) (a5 : Blob) (a6 : Sl Int) : Option Bool :=
  (msg_own_2 a0 a1 a2 a3 a4 a5 a6).bind fun y45=>if y45.2=true then (msg_client 0).bind fun y55=>if y55=true then (msg_Same y45.1 (⟨2,0,a0,a1,a2,0,a3,a4,a5,a6⟩ : Msg)).bind fun y56=>msg_right_2_J1 y56 else msg_right_2_J1 false else msg_right_2_J1 false
theorem msg_right_2_ev {a0 : Submit} {a1 : Reply} {a2 : List UInt8} {a3 : Arr 32} {a4 : Arr 32} {a5 : Blob} {a6 : Sl Int} {r : Bool} (hF : msg_right_2 a0 a1 a2 a3 a4 a5 a6=some r) : EvCall Tryz.prog T G0 123 [.agg ((cI .i64) 2++(cI .i64) 0++cSubmit a0++cReply a1++cS a2++(cI .i64) 0++(cA .u8) a3++(cA .u8) a4++cBlob a5++(cL (cI .i64)) a6)] [] (fun v H'=>v=.bool r∧H'=[]):=by
 refine xc Tryz.func123 ?_
 refine xq (wr 2 [.cells (((cI .i64) 2++(cI .i64) 0++cSubmit a0++cReply a1++cS a2++(cI .i64) 0++(cA .u8) a3++(cA .u8) a4++cBlob a5++(cL (cI .i64)) a6))] (we (ng (xq (wh 1 (bind_elim hF (fun y45 hy45 hF=>uC (msg_own_2_ev hy45) (lows_cons (low_agg (lows_app (lows_app (lows_app (lows_app (lows_app (lows_app (lows_app (lows_app (lows_app (low_cI _) (low_cI _)) (low_cSubmit _)) (low_cReply _)) (low_cS _)) (low_cI _)) (low_cA _)) (low_cA _)) (low_cBlob _)) ((low_cL low_cI) _))) rfl) (low_tup (lows_cons (low_agg (low_cMsg _)) (lows_cons rfl rfl))) (wr 8 [.cells (((cI .i64) 2++(cI .i64) 0++cSubmit a0++cReply a1++cS a2++(cI .i64) 0++(cA .u8) a3++(cA .u8) a4++cBlob a5++(cL (cI .i64)) a6)),.cells (cMsg y45.1)] (we (ng ?_))))))))))
 refine xj (fun fr H=>∃ (p48 : Bool) (g49 : Option Bool) (g50 : Option Bool) (g51 : Option Bool) (g52 : Option Bool) (g53 : Option Bool) (g54 : Option Bool),fr=[.any,.any,.bool p48,.any,.bool y45.2,.any,.any,.any,.any,.bool y45.2,.bool y45.2,junkB g49,.any,.any,junkB g50,junkB g51,junkB g52,.any,.any,junkB g53,junkB g54]∧H=[]∧msg_right_2_J1 p48=some r) (fun fr H ⟨p48,g49,g50,g51,g52,g53,g54,e1,e2,hF⟩=>?_) (fun hJ1=>?_)
 ·subst e1 e2
  refine xt ?_
  cases hF
  exact fE [] (.inl rfl) rfl ⟨rfl,rfl⟩
 refine xr (wh 2 ?_)
 refine ite_elim hF (fun hc1 hF=>?_) (fun hc1 hF=>?_)
 ·refine wT 11 hc1 (wh 4 (bind_elim hF (fun y55 hy55 hF=>uC (msg_client_ev hy55) (lows_cons rfl rfl) rfl (wh 7 ?_))))
  refine ite_elim hF (fun hc2 hF=>?_) (fun hc2 hF=>?_)
  ·exact wT 16 hc2 (wh 9 (bind_elim hF (fun y56 hy56 hF=>uC (msg_Same_ev hy56) (lows_cons (low_agg (low_cMsg _)) (lows_cons (low_agg (low_cMsg _)) rfl)) rfl (wh 12 (we (then_n (x_to hJ1 (VS.si [] 2095595 (by kernel_rfl) shh_nil) ⟨y56,(some true),(some y55),(some y55),(some true),(some y56),(some y56),rfl,rfl,hF⟩)))))))
  exact wF 16 hc2 (wh 12 (we (then_n (x_to hJ1 (VS.si [] 2095595 (by kernel_rfl) shh_nil) ⟨false,(some true),(some y55),(some y55),(some false),none,(some false),rfl,rfl,hF⟩))))
 exact wF 11 hc1 (wh 12 (we (then_n (x_to hJ1 (VS.si [] 2095595 (by kernel_rfl) shh_nil) ⟨false,(some false),none,(some false),(some false),none,(some false),rfl,rfl,hF⟩))))
def msg_writer_answer_J1 (a0 : Reply) (p89 : Sl Int) : Option (Sl Int) :=
  (msg_writer_ints (⟨false,true,[a0.ValueNumber]⟩ : Sl Int) p89).bind fun y90=>(msg_writer_text a0.Value y90).bind fun y91=>(msg_writer_digests (⟨false,true,[a0.Data]⟩ : Sl (Arr 32)) y91).bind fun y92=>(msg_writer_text a0.Seen y92).bind fun y93=>(msg_writer_digests (⟨false,true,[a0.SeenTag]⟩ : Sl (Arr 32)) y93).bind fun y94=>some y94
def msg_writer_answer_B113 (a0 : Reply) (k113 : ((Sl Int)×Int)→Option (Sl Int)) (x113 : (Sl Int)×Int) : Option (Sl Int) :=
  if iLt x113.2 (a0.Pending.l.length : Int)=true then (idxL a0.Pending.l x113.2).bind fun y117=>(msg_writer_ints (⟨false,true,[y117.Client,y117.Number,y117.Kind,y117.Target]⟩ : Sl Int) x113.1).bind fun y118=>(msg_writer_digests (⟨false,true,[y117.Asked,y117.Proof]⟩ : Sl (Arr 32)) y118).bind fun y119=>k113 (y119,iAdd .i64 x113.2 1) else msg_writer_answer_J1 a0 x113.1
def msg_writer_answer (a0 : Reply) (a1 : Sl Int) : Option (Sl Int) :=
  (msg_writer_ints (⟨false,true,[a0.Number,a0.Last]⟩ : Sl Int) a1).bind fun y60=>(msg_writer_text a0.View y60).bind fun y61=>(msg_writer_digests (⟨false,true,[a0.Commit]⟩ : Sl (Arr 32)) y61).bind fun y62=>(msg_writer_ints (⟨false,true,[(a0.Pending.l.length : Int)]⟩ : Sl Int) y62).bind fun y63=>loopN (msg_writer_answer_B113 a0) FUEL (y63,0)
theorem msg_writer_answer_ev {a0 : Reply} {a1 : Sl Int} {r : (Sl Int)} (hF : msg_writer_answer a0 a1=some r) : EvCall Tryz.prog T G0 126 [.ptr 0 0,.agg (cReply a0)] [.cells ([rfv false a1 1 1]),rfb (cI .u8) a1] (fun v H'=>v=.tup []∧H'=[.cells ([rfv false r 2 1]),.dead,rfb (cI .u8) r]):=by
 refine xc Tryz.func126 ?_
 refine xq (wr 1 [.cells ([rfv false a1 1 1]),rfb (cI .u8) a1,.cells (cReply a0)] (we (ng (xq (wh 5 (w_frz (v:=sl (cI .i64) (⟨false,true,[a0.Number,a0.Last]⟩ : Sl Int)) (by kernel_rfl) (bind_elim hF (fun y60 hy60 hF=>uO [0,1] [0,1,3] (v:=.tup []) [.cells ([rfv false y60 3 1]),.dead,rfb (cI .u8) y60] [.cells ([rfv false y60 3 1]),.dead,.cells (cReply a0),rfb (cI .u8) y60] (msg_writer_ints_ev hy60) (tights_cons rfl (tights_cons (tight_sl low_cI) rfl)) (pl (b':=.cells ([rfv false a1 1 1])) (by kernel_rfl) (sb_cells (by kernel_rfl) (by kernel_rfl) (by kernel_rfl)) (pl (b':=rfb (cI .u8) a1) (by kernel_rfl) (sb_low (noref_rfb low_cI _)) pl_nil)) rfl (sbs (sb_cells (by kernel_rfl) (by kernel_rfl) (by kernel_rfl)) (sbs sb_dead (sbs (sb_low (noref_rfb low_cI _)) sbs_nil))) (we (ng (xq (wh 3 (bind_elim hF (fun y61 hy61 hF=>uO [0,3] [0,3,4] (v:=.tup []) [.cells ([rfv false y61 4 1]),.dead,rfb (cI .u8) y61] [.cells ([rfv false y61 4 1]),.dead,.cells (cReply a0),.dead,rfb (cI .u8) y61] (msg_writer_text_ev hy61) (by kernel_rfl) (pl (b':=.cells ([rfv false y60 3 1])) (by kernel_rfl) (sb_cells (by kernel_rfl) (by kernel_rfl) (by kernel_rfl)) (pl (b':=rfb (cI .u8) y60) (by kernel_rfl) (sb_low (noref_rfb low_cI _)) pl_nil)) rfl (sbs (sb_cells (by kernel_rfl) (by kernel_rfl) (by kernel_rfl)) (sbs sb_dead (sbs (sb_low (noref_rfb low_cI _)) sbs_nil))) (we (ng (xq (wh 3 (w_frz (v:=sl (cA .u8) (⟨false,true,[a0.Commit]⟩ : Sl (Arr 32))) (by kernel_rfl) (bind_elim hF (fun y62 hy62 hF=>uO [0,4] [0,4,5] (v:=.tup []) [.cells ([rfv false y62 5 1]),.dead,rfb (cI .u8) y62] [.cells ([rfv false y62 5 1]),.dead,.cells (cReply a0),.dead,.dead,rfb (cI .u8) y62] (msg_writer_digests_ev hy62) (tights_cons rfl (tights_cons (tight_sl low_cA) rfl)) (pl (b':=.cells ([rfv false y61 4 1])) (by kernel_rfl) (sb_cells (by kernel_rfl) (by kernel_rfl) (by kernel_rfl)) (pl (b':=rfb (cI .u8) y61) (by kernel_rfl) (sb_low (noref_rfb low_cI _)) pl_nil)) rfl (sbs (sb_cells (by kernel_rfl) (by kernel_rfl) (by kernel_rfl)) (sbs sb_dead (sbs (sb_low (noref_rfb low_cI _)) sbs_nil))) (we (ng (xq (wh 4 (w_frz (v:=sl (cI .i64) (⟨false,true,[(a0.Pending.l.length : Int)]⟩ : Sl Int)) (by kernel_rfl) (bind_elim hF (fun y63 hy63 hF=>uO [0,5] [0,5,6] (v:=.tup []) [.cells ([rfv false y63 6 1]),.dead,rfb (cI .u8) y63] [.cells ([rfv false y63 6 1]),.dead,.cells (cReply a0),.dead,.dead,.dead,rfb (cI .u8) y63] (msg_writer_ints_ev hy63) (tights_cons rfl (tights_cons (tight_sl low_cI) rfl)) (pl (b':=.cells ([rfv false y62 5 1])) (by kernel_rfl) (sb_cells (by kernel_rfl) (by kernel_rfl) (by kernel_rfl)) (pl (b':=rfb (cI .u8) y62) (by kernel_rfl) (sb_low (noref_rfb low_cI _)) pl_nil)) rfl (sbs (sb_cells (by kernel_rfl) (by kernel_rfl) (by kernel_rfl)) (sbs sb_dead (sbs (sb_low (noref_rfb low_cI _)) sbs_nil))) (we (ng ?_))))))))))))))))))))))))))))))
 refine xj (fun fr H=>∃ (p89 : Sl Int),fr=[.ptr 0 0,.any,.any,.ptr 3 0,.any,.any,.any,.any,.any,.any,.any,.any,.any,.any,.any,.any,.any,.any,.any,.any,.any,.any,.any,.any,.any,.any,.any,.any,.any,.any,.any,.any,.bool false,.any,.any,.any,.any,.any,.any,.any,.any,.any,.any,.any,.any,.any,.any,.any,.any,.any,.any,.any,.any,.any,.any,.any,.any,.any,.any,.any,.any,.any,.any,.any,.any,.any,.any,.any,.any,.any,.any,.any,.any,.any,.any,.any,.any]∧H=[.cells ([rfv false p89 2 1]),.dead,rfb (cI .u8) p89,.cells (cReply a0)]∧msg_writer_answer_J1 a0 p89=some r) (fun fr H ⟨p89,e1,e2,hF⟩=>?_) (fun hJ1=>?_)
 ·subst e1 e2
  refine xq (wh 3 (w_frz (v:=sl (cI .i64) (⟨false,true,[a0.ValueNumber]⟩ : Sl Int)) (by kernel_rfl) (bind_elim hF (fun y90 hy90 hF=>uO [0,2] [0,2,4] (v:=.tup []) [.cells ([rfv false y90 4 1]),.dead,rfb (cI .u8) y90] [.cells ([rfv false y90 4 1]),.dead,.dead,.cells (cReply a0),rfb (cI .u8) y90] (msg_writer_ints_ev hy90) (tights_cons rfl (tights_cons (tight_sl low_cI) rfl)) (pl (b':=.cells ([rfv false p89 2 1])) (by kernel_rfl) (sb_cells (by kernel_rfl) (by kernel_rfl) (by kernel_rfl)) (pl (b':=rfb (cI .u8) p89) (by kernel_rfl) (sb_low (noref_rfb low_cI _)) pl_nil)) rfl (sbs (sb_cells (by kernel_rfl) (by kernel_rfl) (by kernel_rfl)) (sbs sb_dead (sbs (sb_low (noref_rfb low_cI _)) sbs_nil))) (we (ng (xq (wh 3 (bind_elim hF (fun y91 hy91 hF=>uO [0,4] [0,4,5] (v:=.tup []) [.cells ([rfv false y91 5 1]),.dead,rfb (cI .u8) y91] [.cells ([rfv false y91 5 1]),.dead,.dead,.cells (cReply a0),.dead,rfb (cI .u8) y91] (msg_writer_text_ev hy91) (by kernel_rfl) (pl (b':=.cells ([rfv false y90 4 1])) (by kernel_rfl) (sb_cells (by kernel_rfl) (by kernel_rfl) (by kernel_rfl)) (pl (b':=rfb (cI .u8) y90) (by kernel_rfl) (sb_low (noref_rfb low_cI _)) pl_nil)) rfl (sbs (sb_cells (by kernel_rfl) (by kernel_rfl) (by kernel_rfl)) (sbs sb_dead (sbs (sb_low (noref_rfb low_cI _)) sbs_nil))) (we (ng (xq (wh 3 (w_frz (v:=sl (cA .u8) (⟨false,true,[a0.Data]⟩ : Sl (Arr 32))) (by kernel_rfl) (bind_elim hF (fun y92 hy92 hF=>uO [0,5] [0,5,6] (v:=.tup []) [.cells ([rfv false y92 6 1]),.dead,rfb (cI .u8) y92] [.cells ([rfv false y92 6 1]),.dead,.dead,.cells (cReply a0),.dead,.dead,rfb (cI .u8) y92] (msg_writer_digests_ev hy92) (tights_cons rfl (tights_cons (tight_sl low_cA) rfl)) (pl (b':=.cells ([rfv false y91 5 1])) (by kernel_rfl) (sb_cells (by kernel_rfl) (by kernel_rfl) (by kernel_rfl)) (pl (b':=rfb (cI .u8) y91) (by kernel_rfl) (sb_low (noref_rfb low_cI _)) pl_nil)) rfl (sbs (sb_cells (by kernel_rfl) (by kernel_rfl) (by kernel_rfl)) (sbs sb_dead (sbs (sb_low (noref_rfb low_cI _)) sbs_nil))) (we (ng (xq (wh 3 (bind_elim hF (fun y93 hy93 hF=>uO [0,6] [0,6,7] (v:=.tup []) [.cells ([rfv false y93 7 1]),.dead,rfb (cI .u8) y93] [.cells ([rfv false y93 7 1]),.dead,.dead,.cells (cReply a0),.dead,.dead,.dead,rfb (cI .u8) y93] (msg_writer_text_ev hy93) (by kernel_rfl) (pl (b':=.cells ([rfv false y92 6 1])) (by kernel_rfl) (sb_cells (by kernel_rfl) (by kernel_rfl) (by kernel_rfl)) (pl (b':=rfb (cI .u8) y92) (by kernel_rfl) (sb_low (noref_rfb low_cI _)) pl_nil)) rfl (sbs (sb_cells (by kernel_rfl) (by kernel_rfl) (by kernel_rfl)) (sbs sb_dead (sbs (sb_low (noref_rfb low_cI _)) sbs_nil))) (we (ng (xr (wh 3 (w_frz (v:=sl (cA .u8) (⟨false,true,[a0.SeenTag]⟩ : Sl (Arr 32))) (by kernel_rfl) (bind_elim hF (fun y94 hy94 hF=>uO [0,7] [0,7,8] (v:=.tup []) [.cells ([rfv false y94 8 1]),.dead,rfb (cI .u8) y94] [.cells ([rfv false y94 8 1]),.dead,.dead,.cells (cReply a0),.dead,.dead,.dead,.dead,rfb (cI .u8) y94] (msg_writer_digests_ev hy94) (tights_cons rfl (tights_cons (tight_sl low_cA) rfl)) (pl (b':=.cells ([rfv false y93 7 1])) (by kernel_rfl) (sb_cells (by kernel_rfl) (by kernel_rfl) (by kernel_rfl)) (pl (b':=rfb (cI .u8) y93) (by kernel_rfl) (sb_low (noref_rfb low_cI _)) pl_nil)) rfl (sbs (sb_cells (by kernel_rfl) (by kernel_rfl) (by kernel_rfl)) (sbs sb_dead (sbs (sb_low (noref_rfb low_cI _)) sbs_nil))) (we ?_)))))))))))))))))))))))))))))))
  cases hF
  exact fS [0,1,8] (.inr rfl) rfl (sk rfl (shh rfl (shb_dead (by kernel_rfl)) (sr low_cI rfl shh_nil))) ⟨rfl,rfl⟩
 refine xq (wh 4 (we (ng (xb (x_loop (fun d fr H=>∃ (x113 : (Sl Int)×Int) (g103 : Option Bool),fr=[.ptr 0 0,.any,.any,.ptr 3 0,.any,.any,.any,.any,.any,.any,.any,.any,.any,.any,.any,.any,.any,.any,.any,.any,.any,.any,.any,.any,.any,.any,.any,.any,.any,sl cPending a0.Pending,.int .i64 (a0.Pending.l.length : Int),.int .i64 x113.2,junkB g103,.any,.any,.any,.any,.any,.any,.any,.any,.any,.any,.any,.any,.any,.any,.any,.any,.any,.any,.any,.any,.any,.any,.any,.any,.any,.any,.any,.any,.any,.any,.any,.any,.any,.any,.any,.any,.any,.any,.any,.any,.any,.any,.any,.any]∧H=[.cells ([rfv false x113.1 2 1]),.dead,rfb (cI .u8) x113.1,.cells (cReply a0)]∧loopN (msg_writer_answer_B113 a0) d x113=some r) (by kernel_rfl) (fun fr H ⟨x113,g103,e1,e2,hF⟩=>loop_no hF) (fun d113 fr H ⟨x113,g103,e1,e2,hF⟩=>?_) (VS.si [0,1,6,2] 151115727451824888741878 (tights_at [29] (by kernel_rfl) (by exact ⟨(tight_sl low_cPending),trivial⟩)) (sk rfl (shh rfl (shb_dead (by kernel_rfl)) (sr low_cI rfl (st (tights_lows (low_cReply _)) rfl shh_nil))))) ⟨(y63,0),none,rfl,rfl,hF⟩)))))
 subst e1 e2
 have hF:=loop_in hF
 refine xq (wh 1 (we (ng (xs ?_))))
 refine ite_elim hF (fun hc1 hF=>?_) (fun hc1 hF=>?_)
 ·exact kT 32 hc1 (xT (xk (ng (xs (xb (xq (bind_elim hF (fun y117 hy117 hF=>uI cPending 68 hy117 len_cPending (uE cPending 0 (t:=46) (v:=.agg (cPending y117)) 68 68 hy117 len_cPending (wr 4 [.cells ([rfv false x113.1 2 1]),.dead,rfb (cI .u8) x113.1,.cells (cReply a0),.cells (cPending y117)] (we (ng (xq (wh 9 (w_frz (v:=sl (cI .i64) (⟨false,true,[y117.Client,y117.Number,y117.Kind,y117.Target]⟩ : Sl Int)) (by kernel_rfl) (bind_elim hF (fun y118 hy118 hF=>uO [0,2] [0,2,5] (v:=.tup []) [.cells ([rfv false y118 5 1]),.dead,rfb (cI .u8) y118] [.cells ([rfv false y118 5 1]),.dead,.dead,.cells (cReply a0),.cells (cPending y117),rfb (cI .u8) y118] (msg_writer_ints_ev hy118) (tights_cons rfl (tights_cons (tight_sl low_cI) rfl)) (pl (b':=.cells ([rfv false x113.1 2 1])) (by kernel_rfl) (sb_cells (by kernel_rfl) (by kernel_rfl) (by kernel_rfl)) (pl (b':=rfb (cI .u8) x113.1) (by kernel_rfl) (sb_low (noref_rfb low_cI _)) pl_nil)) rfl (sbs (sb_cells (by kernel_rfl) (by kernel_rfl) (by kernel_rfl)) (sbs sb_dead (sbs (sb_low (noref_rfb low_cI _)) sbs_nil))) (we (ng (xr (wh 5 (w_frz (v:=sl (cA .u8) (⟨false,true,[y117.Asked,y117.Proof]⟩ : Sl (Arr 32))) (by kernel_rfl) (bind_elim hF (fun y119 hy119 hF=>uO [0,5] [0,5,6] (v:=.tup []) [.cells ([rfv false y119 6 1]),.dead,rfb (cI .u8) y119] [.cells ([rfv false y119 6 1]),.dead,.dead,.cells (cReply a0),.cells (cPending y117),.dead,rfb (cI .u8) y119] (msg_writer_digests_ev hy119) (tights_cons rfl (tights_cons (tight_sl low_cA) rfl)) (pl (b':=.cells ([rfv false y118 5 1])) (by kernel_rfl) (sb_cells (by kernel_rfl) (by kernel_rfl) (by kernel_rfl)) (pl (b':=rfb (cI .u8) y118) (by kernel_rfl) (sb_low (noref_rfb low_cI _)) pl_nil)) rfl (sbs (sb_cells (by kernel_rfl) (by kernel_rfl) (by kernel_rfl)) (sbs sb_dead (sbs (sb_low (noref_rfb low_cI _)) sbs_nil))) (we (block_n (ng (xr (wh 2 (we (then_n (x_back (VS.si [0,1,6,3] 151115727451824888741878 (tights_at [29] (by kernel_rfl) (by exact ⟨(tight_sl low_cPending),trivial⟩)) (sk rfl (shh rfl (shb_dead (by kernel_rfl)) (sr low_cI rfl (st (tights_lows (low_cReply _)) rfl shh_nil))))) ⟨(y119,iAdd .i64 x113.2 1),(some true),rfl,rfl,hF⟩))))))))))))))))))))))))))))))))
 exact kF 32 hc1 (xF (xe (then_e (then_e (block_e (then_n (x_to hJ1 (VS.sm 151115727451824351870966) ⟨x113.1,rfl,rfl,hF⟩)))))))
def msg_Put_2 (a0 : Submit) (a1 : Reply) (a2 : List UInt8) (a3 : Arr 32) (a4 : Arr 32) (a5 : Blob) (a6 : Sl Int) : Option ((List UInt8)×Int) :=
  (msg_right_2 a0 a1 a2 a3 a4 a5 a6).bind fun y46=>if y46=true then (msg_writer_ints (⟨false,true,[2]⟩ : Sl Int) (⟨true,true,[]⟩ : Sl Int)).bind fun y47=>(msg_writer_answer a1 y47).bind fun y49=>some (bytesS y49.l,0) else some ([],2)
theorem msg_Put_2_ev {a0 : Submit} {a1 : Reply} {a2 : List UInt8} {a3 : Arr 32} {a4 : Arr 32} {a5 : Blob} {a6 : Sl Int} {r : (List UInt8)×Int} (hF : msg_Put_2 a0 a1 a2 a3 a4 a5 a6=some r) : EvCall Tryz.prog T G0 94 [.agg ((cI .i64) 2++(cI .i64) 0++cSubmit a0++cReply a1++cS a2++(cI .i64) 0++(cA .u8) a3++(cA .u8) a4++cBlob a5++(cL (cI .i64)) a6)] [] (fun v H'=>v=.tup [.str r.1,.int .i64 r.2]∧H'=[]):=by
 refine xc Tryz.func94 ?_
 refine xq (wr 3 [.cells (((cI .i64) 2++(cI .i64) 0++cSubmit a0++cReply a1++cS a2++(cI .i64) 0++(cA .u8) a3++(cA .u8) a4++cBlob a5++(cL (cI .i64)) a6))] (we (ng (xs (xq (wh 1 (bind_elim hF (fun y46 hy46 hF=>uC (msg_right_2_ev hy46) (lows_cons (low_agg (lows_app (lows_app (lows_app (lows_app (lows_app (lows_app (lows_app (lows_app (lows_app (low_cI _) (low_cI _)) (low_cSubmit _)) (low_cReply _)) (low_cS _)) (low_cI _)) (low_cA _)) (low_cA _)) (low_cBlob _)) ((low_cL low_cI) _))) rfl) rfl (wh 3 (we (ng ?_)))))))))))
 refine ite_elim hF (fun hc1 hF=>?_) (fun hc1 hF=>?_)
 ·refine kF 9 (show (!y46)=false by rw [hc1]; rfl) (xF (xk (ng (xq (wr 3 [.cells (((cI .i64) 2++(cI .i64) 0++cSubmit a0++cReply a1++cS a2++(cI .i64) 0++(cA .u8) a3++(cA .u8) a4++cBlob a5++(cL (cI .i64)) a6)),.cells (cMsg_writer (⟨(⟨true,true,[]⟩ : Sl Int)⟩ : Msg_writer))] (we (ng (xq (wh 3 (w_frz (v:=sl (cI .i64) (⟨false,true,[2]⟩ : Sl Int)) (by kernel_rfl) (bind_elim hF (fun y47 hy47 hF=>uO [1] [1,2,3] (v:=.tup []) [.cells ([rfv false y47 3 1]),.dead,rfb (cI .u8) y47] [.cells (((cI .i64) 2++(cI .i64) 0++cSubmit a0++cReply a1++cS a2++(cI .i64) 0++(cA .u8) a3++(cA .u8) a4++cBlob a5++(cL (cI .i64)) a6)),.cells ([rfv false y47 3 1]),.dead,rfb (cI .u8) y47] (EvCall.pre (args:=[.ptr 0 0,sl (cI .i64) (⟨false,true,[2]⟩ : Sl Int)]) (H:=[.cells ((cL (cI .u8)) (⟨true,true,[]⟩ : Sl Int))]) (VS.thawC (cI .u8) 0 0 1 (cs:=(cL (cI .u8)) (⟨true,true,[]⟩ : Sl Int)) (by kernel_rfl) (by kernel_rfl)) (msg_writer_ints_ev hy47)) (tights_cons rfl (tights_cons (tight_sl low_cI) rfl)) (pl (b':=.cells ((cL (cI .u8)) (⟨true,true,[]⟩ : Sl Int))) (by kernel_rfl) (sb_cells (by kernel_rfl) (by kernel_rfl) (tights_lows ((low_cL low_cI) _))) pl_nil) rfl (sbs (sb_cells (by kernel_rfl) (by kernel_rfl) (by kernel_rfl)) (sbs sb_dead (sbs (sb_low (noref_rfb low_cI _)) sbs_nil))) (we (ng (xs (xq (wh 13 (we (ng (xF (xk (ng (xs (xq (wh 2 (we (ng (xb (xq (wh 2 ?_))))))))))))))))))))))))))))))
  refine we (ng (xF (xq (wh 2 (we (ng (xT (xr (wh 3 (bind_elim hF (fun y49 hy49 hF=>uO [1,3] [1,3,4] (v:=.tup []) [.cells ([rfv false y49 4 1]),.dead,rfb (cI .u8) y49] [.cells (((cI .i64) 2++(cI .i64) 0++cSubmit a0++cReply a1++cS a2++(cI .i64) 0++(cA .u8) a3++(cA .u8) a4++cBlob a5++(cL (cI .i64)) a6)),.cells ([rfv false y49 4 1]),.dead,.dead,rfb (cI .u8) y49] (msg_writer_answer_ev hy49) (tights_cons rfl (tights_cons (tight_agg (tights_lows (low_cReply _))) rfl)) (pl (b':=.cells ([rfv false y47 3 1])) (by kernel_rfl) (sb_cells (by kernel_rfl) (by kernel_rfl) (by kernel_rfl)) (pl (b':=rfb (cI .u8) y47) (by kernel_rfl) (sb_low (noref_rfb low_cI _)) pl_nil)) rfl (sbs (sb_cells (by kernel_rfl) (by kernel_rfl) (by kernel_rfl)) (sbs sb_dead (sbs (sb_low (noref_rfb low_cI _)) sbs_nil))) (we (block_n (ng (xq (wh 4 (w_rowstr (l:=4) (ex:=false) y49 (wh 7 (we (ng (xt ?_)))))))))))))))))))))
  cases hF
  exact fE [] (.inl rfl) (low_tup (lows_cons rfl (lows_cons rfl rfl))) ⟨rfl,rfl⟩
 refine kT 9 (show (!y46)=true by rw [hc1]; rfl) (xT (xq (wh 2 (we (ng (xt (then_r ?_)))))))
 cases hF
 exact fE [] (.inl rfl) (low_tup (lows_cons rfl (lows_cons rfl rfl))) ⟨rfl,rfl⟩
def verify_may_J1 (p53 : Bool) : Option Bool :=
  some p53
def verify_may (a0 : Int) (a1 : List UInt8) (a2 : Submit) (a3 : Reply) (a4 : List UInt8) (a5 : Sl (List UInt8)) (a6 : Mp Ring_tagged Int) : Option Bool :=
  (msg_Put a0 a2 (⟨0,0,[],(Arr.zero 32),⟨true,true,[]⟩,0,[],(Arr.zero 32),[],(Arr.zero 32)⟩ : Reply) [] (Arr.zero 32) (Arr.zero 32) (⟨0,0,[],(Arr.zero 32)⟩ : Blob) (⟨true,true,[]⟩ : Sl Int)).bind fun y33=>(msg_Put_2 (⟨0,0,0,[],(Arr.zero 32),(Arr.zero 32)⟩ : Submit) a3 [] (Arr.zero 32) (Arr.zero 32) (⟨0,0,[],(Arr.zero 32)⟩ : Blob) (⟨true,true,[]⟩ : Sl Int)).bind fun y34=>if (y33.2 != 0)=true then some false else if (y34.2 != 0)=true then some false else (verify_is a0 a4 a5 a6).bind fun y47=>if y47=true then (verify_is a2.Target a4 a5 a6).bind fun y48=>if y48=true then (ring_Ring_Clients a4 a5 a6).bind fun y49=>(hist_Right a1 y49).bind fun y50=>if y50=true then (histCountF a1 a0).bind fun y59=>if (a2.Number==iAdd .i64 y59 1)=true then verify_may_J1 (a3.Number==a2.Number) else verify_may_J1 false else some false else some false else some false
theorem verify_may_ev {a0 : Int} {a1 : List UInt8} {a2 : Submit} {a3 : Reply} {a4 : List UInt8} {a5 : Sl (List UInt8)} {a6 : Mp Ring_tagged Int} {r : Bool} (hF : verify_may a0 a1 a2 a3 a4 a5 a6=some r) : EvCall Tryz.prog T G0 50 [.ptr 0 0,.int .i64 a0,.str a1,.agg (cSubmit a2),.agg (cReply a3)] [.cells (cS a4++[rfv false a5 1 1]++[.map 2]),rfb cS a5,mpb (fun a=>AV.agg (cRing_tagged a)) (AV.int .i64) a6] (fun v H'=>v=.bool r∧H'=[.cells (cS a4++[rfv false a5 1 1]++[.map 2]),rfb cS a5,mpb (fun a=>AV.agg (cRing_tagged a)) (AV.int .i64) a6]):=by
 refine xc Tryz.func50 ?_
 refine xq (wr 3 [.cells (cS a4++[rfv false a5 1 1]++[.map 2]),rfb cS a5,mpb (fun a=>AV.agg (cRing_tagged a)) (AV.int .i64) a6,.cells (cSubmit a2),.cells (cReply a3)] (we (ng (xq (wh 3 (bind_elim hF (fun y33 hy33 hF=>uC (msg_Put_ev hy33) (lows_cons (low_agg (lows_app (lows_app (lows_app (lows_app (lows_app (lows_app (lows_app (lows_app (lows_app (low_cI _) (low_cI _)) (low_cSubmit _)) (low_cReply _)) (low_cS _)) (low_cI _)) (low_cA _)) (low_cA _)) (low_cBlob _)) ((low_cL low_cI) _))) rfl) (low_tup (lows_cons rfl (lows_cons rfl rfl))) (wh 9 (we (ng (xq (wh 2 (bind_elim hF (fun y34 hy34 hF=>uC (msg_Put_2_ev hy34) (lows_cons (low_agg (lows_app (lows_app (lows_app (lows_app (lows_app (lows_app (lows_app (lows_app (lows_app (low_cI _) (low_cI _)) (low_cSubmit _)) (low_cReply _)) (low_cS _)) (low_cI _)) (low_cA _)) (low_cA _)) (low_cBlob _)) ((low_cL low_cI) _))) rfl) (low_tup (lows_cons rfl (lows_cons rfl rfl))) (wh 8 (we (ng (xs (xq (wh 3 ?_))))))))))))))))))))
 refine ite_elim hF (fun hc1 hF=>?_) (fun hc1 hF=>?_)
 ·refine wT 30 hc1 (wh 26 (we (ng (xT (xq (wh 1 (we (ng (xt (then_r ?_))))))))))
  cases hF
  exact fS [0,1,2] (.inl rfl) rfl (sk rfl (sr low_cS rfl (sn (noref_mpb (fun _=>low_agg (low_cRing_tagged _)) (fun _=>rfl) _) rfl shh_nil))) ⟨rfl,rfl⟩
 refine wF 30 hc1 (wh 7 ?_)
 refine ite_elim hF (fun hc2 hF=>?_) (fun hc2 hF=>?_)
 ·refine wT 34 hc2 (wh 26 (we (ng (xT (xq (wh 1 (we (ng (xt (then_r ?_))))))))))
  cases hF
  exact fS [0,1,2] (.inl rfl) rfl (sk rfl (sr low_cS rfl (sn (noref_mpb (fun _=>low_agg (low_cRing_tagged _)) (fun _=>rfl) _) rfl shh_nil))) ⟨rfl,rfl⟩
 refine wF 34 hc2 (wh 9 (bind_elim hF (fun y47 hy47 hF=>uOs [0,1,2] [0,1,2] (v:=.bool y47) [.cells (cS a4++[rfv false a5 1 1]++[.map 2]),rfb cS a5,mpb (fun a=>AV.agg (cRing_tagged a)) (AV.int .i64) a6] (verify_is_ev hy47) (by kernel_rfl) (pl (b':=.cells (cS a4++[rfv false a5 1 1]++[.map 2])) (by kernel_rfl) (sb_cells (by kernel_rfl) (by kernel_rfl) (by kernel_rfl)) (pl (b':=rfb cS a5) (by kernel_rfl) (sb_low (noref_rfb low_cS _)) (pl (b':=mpb (fun a=>AV.agg (cRing_tagged a)) (AV.int .i64) a6) (by kernel_rfl) (sb_low (noref_mpb (fun _=>low_agg (low_cRing_tagged _)) (fun _=>rfl) _)) pl_nil))) rfl (sbs (sb_cells (by kernel_rfl) (by kernel_rfl) (by kernel_rfl)) (sbs (sb_low (noref_rfb low_cS _)) (sbs (sb_low (noref_mpb (fun _=>low_agg (low_cRing_tagged _)) (fun _=>rfl) _)) sbs_nil))) (wh 13 ?_))))
 refine ite_elim hF (fun hc3 hF=>?_) (fun hc3 hF=>?_)
 ·refine wF 40 (show (!y47)=false by rw [hc3]; rfl) (wh 16 (bind_elim hF (fun y48 hy48 hF=>uOs [0,1,2] [0,1,2] (v:=.bool y48) [.cells (cS a4++[rfv false a5 1 1]++[.map 2]),rfb cS a5,mpb (fun a=>AV.agg (cRing_tagged a)) (AV.int .i64) a6] (verify_is_ev hy48) (by kernel_rfl) (pl (b':=.cells (cS a4++[rfv false a5 1 1]++[.map 2])) (by kernel_rfl) (sb_cells (by kernel_rfl) (by kernel_rfl) (by kernel_rfl)) (pl (b':=rfb cS a5) (by kernel_rfl) (sb_low (noref_rfb low_cS _)) (pl (b':=mpb (fun a=>AV.agg (cRing_tagged a)) (AV.int .i64) a6) (by kernel_rfl) (sb_low (noref_mpb (fun _=>low_agg (low_cRing_tagged _)) (fun _=>rfl) _)) pl_nil))) rfl (sbs (sb_cells (by kernel_rfl) (by kernel_rfl) (by kernel_rfl)) (sbs (sb_low (noref_rfb low_cS _)) (sbs (sb_low (noref_mpb (fun _=>low_agg (low_cRing_tagged _)) (fun _=>rfl) _)) sbs_nil))) (wh 20 ?_))))
  refine ite_elim hF (fun hc4 hF=>?_) (fun hc4 hF=>?_)
  ·refine wF 47 (show (!y48)=false by rw [hc4]; rfl) (wh 22 (bind_elim hF (fun y49 hy49 hF=>uOs [0,1,2] [0,1,2] (v:=.int .i64 y49) [.cells (cS a4++[rfv false a5 1 1]++[.map 2]),rfb cS a5,mpb (fun a=>AV.agg (cRing_tagged a)) (AV.int .i64) a6] (ring_Ring_Clients_ev hy49) (by kernel_rfl) (pl (b':=.cells (cS a4++[rfv false a5 1 1]++[.map 2])) (by kernel_rfl) (sb_cells (by kernel_rfl) (by kernel_rfl) (by kernel_rfl)) (pl (b':=rfb cS a5) (by kernel_rfl) (sb_low (noref_rfb low_cS _)) (pl (b':=mpb (fun a=>AV.agg (cRing_tagged a)) (AV.int .i64) a6) (by kernel_rfl) (sb_low (noref_mpb (fun _=>low_agg (low_cRing_tagged _)) (fun _=>rfl) _)) pl_nil))) rfl (sbs (sb_cells (by kernel_rfl) (by kernel_rfl) (by kernel_rfl)) (sbs (sb_low (noref_rfb low_cS _)) (sbs (sb_low (noref_mpb (fun _=>low_agg (low_cRing_tagged _)) (fun _=>rfl) _)) sbs_nil))) (bind_elim hF (fun y50 hy50 hF=>uC (hist_Right_ev hy50) (lows_cons rfl (lows_cons rfl rfl)) rfl (wh 26 (we (ng ?_))))))))
   refine ite_elim hF (fun hc5 hF=>?_) (fun hc5 hF=>?_)
   ·refine kF 53 (show (!y50)=false by rw [hc5]; rfl) (xF (xk (ng ?_)))
    refine xj (fun fr H=>∃ (p53 : Bool) (g54 : Option Bool) (g55 : Option Bool) (g56 : Option Bool) (g57 : Option Bool),fr=[.any,.any,.any,.any,.any,.any,.any,.any,.any,.any,.bool p53,.any,.any,.any,.any,.any,.any,.any,.any,.any,.any,.any,.any,.any,.any,.any,.any,.any,.any,.bool (y33.2 != 0),.bool false,.any,.bool (y34.2 != 0),.bool (y34.2 != 0),.bool false,.any,.any,.bool y47,.bool (!y47),.bool (!y47),.bool false,.any,.any,.any,.bool y48,.bool (!y48),.bool (!y48),.bool false,.any,.any,.any,.bool y50,.bool (!y50),.bool false,.any,.any,.any,.any,.any,.any,junkB g54,junkB g55,.any,.any,.any,.any,junkB g56,junkB g57]∧H=[.cells (cS a4++[rfv false a5 1 1]++[.map 2]),rfb cS a5,mpb (fun a=>AV.agg (cRing_tagged a)) (AV.int .i64) a6]∧verify_may_J1 p53=some r) (fun fr H ⟨p53,g54,g55,g56,g57,e1,e2,hF⟩=>?_) (fun hJ1=>?_)
    ·subst e1 e2
     refine xt ?_
     cases hF
     exact fS [0,1,2] (.inl rfl) rfl (sk rfl (sr low_cS rfl (sn (noref_mpb (fun _=>low_agg (low_cRing_tagged _)) (fun _=>rfl) _) rfl shh_nil))) ⟨rfl,rfl⟩
    refine xd 0 call_ends callMono (wp 4 (bind_elim hF (fun y59 hy59 hF=>uC (histCountF_ev hy59) (lows_cons rfl (lows_cons rfl rfl)) rfl (wp 8 ?_))))
    refine ite_elim hF (fun hc6 hF=>?_) (fun hc6 hF=>?_)
    ·exact wT 61 hc6 (wp 15 (we (de (then_n (x_to hJ1 (VS.si [0,1,2] 295131876604606675967 (by kernel_rfl) (sk rfl (sr low_cS rfl (sn (noref_mpb (fun _=>low_agg (low_cRing_tagged _)) (fun _=>rfl) _) rfl shh_nil)))) ⟨(a3.Number==a2.Number),(some (a2.Number==iAdd .i64 y59 1)),(some true),(some (a3.Number==a2.Number)),(some (a3.Number==a2.Number)),rfl,rfl,hF⟩)))))
    exact wF 61 hc6 (wp 15 (we (de (then_n (x_to hJ1 (VS.si [0,1,2] 295131876604606675967 (by kernel_rfl) (sk rfl (sr low_cS rfl (sn (noref_mpb (fun _=>low_agg (low_cRing_tagged _)) (fun _=>rfl) _) rfl shh_nil)))) ⟨false,(some (a2.Number==iAdd .i64 y59 1)),(some false),none,(some false),rfl,rfl,hF⟩)))))
   refine kT 53 (show (!y50)=true by rw [hc5]; rfl) (xT (xq (wh 1 (we (ng (xt (then_r ?_)))))))
   cases hF
   exact fS [0,1,2] (.inl rfl) rfl (sk rfl (sr low_cS rfl (sn (noref_mpb (fun _=>low_agg (low_cRing_tagged _)) (fun _=>rfl) _) rfl shh_nil))) ⟨rfl,rfl⟩
  refine wT 47 (show (!y48)=true by rw [hc4]; rfl) (wh 26 (we (ng (xT (xq (wh 1 (we (ng (xt (then_r ?_))))))))))
  cases hF
  exact fS [0,1,2] (.inl rfl) rfl (sk rfl (sr low_cS rfl (sn (noref_mpb (fun _=>low_agg (low_cRing_tagged _)) (fun _=>rfl) _) rfl shh_nil))) ⟨rfl,rfl⟩
 refine wT 40 (show (!y47)=true by rw [hc3]; rfl) (wh 26 (we (ng (xT (xq (wh 1 (we (ng (xt (then_r ?_))))))))))
 cases hF
 exact fS [0,1,2] (.inl rfl) rfl (sk rfl (sr low_cS rfl (sn (noref_mpb (fun _=>low_agg (low_cRing_tagged _)) (fun _=>rfl) _) rfl shh_nil))) ⟨rfl,rfl⟩
def verify_long (a0 : Reply) (a1 : List UInt8) (a2 : Sl (List UInt8)) (a3 : Mp Ring_tagged Int) : Option Int :=
  if (a0.View==[])=true then some 0 else (verify_is a0.Last a1 a2 a3).bind fun y86=>if y86=true then (ring_Ring_Clients a1 a2 a3).bind fun y87=>(hist_Right a0.View y87).bind fun y88=>if y88=true then (idxB a0.View (iSub .i64 (a0.View.length : Int) 1)).bind fun y90=>if (IntKind.wrap .i64 y90 != a0.Last)=true then some 8 else (verify_holds (⟨a0.Last,3,a0.View,a0.Commit⟩ : Verify_tag) a1 a2 a3).bind fun y91=>if y91=true then some 0 else some 7 else some 2 else some 2
theorem verify_long_ev {a0 : Reply} {a1 : List UInt8} {a2 : Sl (List UInt8)} {a3 : Mp Ring_tagged Int} {r : Int} (hF : verify_long a0 a1 a2 a3=some r) : EvCall Tryz.prog T G0 51 [.ptr 0 0,.agg (cReply a0)] [.cells (cS a1++[rfv false a2 1 1]++[.map 2]),rfb cS a2,mpb (fun a=>AV.agg (cRing_tagged a)) (AV.int .i64) a3] (fun v H'=>v=.int .i64 r∧H'=[.cells (cS a1++[rfv false a2 1 1]++[.map 2]),rfb cS a2,mpb (fun a=>AV.agg (cRing_tagged a)) (AV.int .i64) a3]):=by
 refine xc Tryz.func51 ?_
 refine xq (wr 2 [.cells (cS a1++[rfv false a2 1 1]++[.map 2]),rfb cS a2,mpb (fun a=>AV.agg (cRing_tagged a)) (AV.int .i64) a3,.cells (cReply a0)] (we (ng (xs (xq (wh 3 (we (ng ?_))))))))
 refine ite_elim hF (fun hc1 hF=>?_) (fun hc1 hF=>?_)
 ·refine kT 7 hc1 (xT (xq (wh 1 (we (ng (xt (then_r ?_)))))))
  cases hF
  exact fS [0,1,2] (.inl rfl) rfl (sk rfl (sr low_cS rfl (sn (noref_mpb (fun _=>low_agg (low_cRing_tagged _)) (fun _=>rfl) _) rfl shh_nil))) ⟨rfl,rfl⟩
 refine kF 7 hc1 (xF (xk (ng (xs (xb (xs (xd 0 call_ends callMono (wp 3 (bind_elim hF (fun y86 hy86 hF=>uOs [0,1,2] [0,1,2] (v:=.bool y86) [.cells (cS a1++[rfv false a2 1 1]++[.map 2]),rfb cS a2,mpb (fun a=>AV.agg (cRing_tagged a)) (AV.int .i64) a3] (verify_is_ev hy86) (by kernel_rfl) (pl (b':=.cells (cS a1++[rfv false a2 1 1]++[.map 2])) (by kernel_rfl) (sb_cells (by kernel_rfl) (by kernel_rfl) (by kernel_rfl)) (pl (b':=rfb cS a2) (by kernel_rfl) (sb_low (noref_rfb low_cS _)) (pl (b':=mpb (fun a=>AV.agg (cRing_tagged a)) (AV.int .i64) a3) (by kernel_rfl) (sb_low (noref_mpb (fun _=>low_agg (low_cRing_tagged _)) (fun _=>rfl) _)) pl_nil))) rfl (sbs (sb_cells (by kernel_rfl) (by kernel_rfl) (by kernel_rfl)) (sbs (sb_low (noref_rfb low_cS _)) (sbs (sb_low (noref_mpb (fun _=>low_agg (low_cRing_tagged _)) (fun _=>rfl) _)) sbs_nil))) (wp 6 ?_)))))))))))
 refine ite_elim hF (fun hc2 hF=>?_) (fun hc2 hF=>?_)
 ·refine wF 14 (show (!y86)=false by rw [hc2]; rfl) (wp 9 (bind_elim hF (fun y87 hy87 hF=>uOs [0,1,2] [0,1,2] (v:=.int .i64 y87) [.cells (cS a1++[rfv false a2 1 1]++[.map 2]),rfb cS a2,mpb (fun a=>AV.agg (cRing_tagged a)) (AV.int .i64) a3] (ring_Ring_Clients_ev hy87) (by kernel_rfl) (pl (b':=.cells (cS a1++[rfv false a2 1 1]++[.map 2])) (by kernel_rfl) (sb_cells (by kernel_rfl) (by kernel_rfl) (by kernel_rfl)) (pl (b':=rfb cS a2) (by kernel_rfl) (sb_low (noref_rfb low_cS _)) (pl (b':=mpb (fun a=>AV.agg (cRing_tagged a)) (AV.int .i64) a3) (by kernel_rfl) (sb_low (noref_mpb (fun _=>low_agg (low_cRing_tagged _)) (fun _=>rfl) _)) pl_nil))) rfl (sbs (sb_cells (by kernel_rfl) (by kernel_rfl) (by kernel_rfl)) (sbs (sb_low (noref_rfb low_cS _)) (sbs (sb_low (noref_mpb (fun _=>low_agg (low_cRing_tagged _)) (fun _=>rfl) _)) sbs_nil))) (bind_elim hF (fun y88 hy88 hF=>uC (hist_Right_ev hy88) (lows_cons rfl (lows_cons rfl rfl)) rfl (wp 14 (we (de (ng ?_)))))))))
  refine ite_elim hF (fun hc3 hF=>?_) (fun hc3 hF=>?_)
  ·refine kF 8 (show (!y88)=false by rw [hc3]; rfl) (xF (xs (xd 0 call_ends callMono (wp 6 (bind_elim hF (fun y90 hy90 hF=>w_idx (by kernel_rfl) hy90 (wp 12 (we (de (ng ?_))))))))))
   refine ite_elim hF (fun hc4 hF=>?_) (fun hc4 hF=>?_)
   ·refine kT 22 hc4 (xT (xq (wh 1 (we (ng (xt (block_r (then_r ?_))))))))
    cases hF
    exact fS [0,1,2] (.inl rfl) rfl (sk rfl (sr low_cS rfl (sn (noref_mpb (fun _=>low_agg (low_cRing_tagged _)) (fun _=>rfl) _) rfl shh_nil))) ⟨rfl,rfl⟩
   refine kF 22 hc4 (xF (xq (wh 8 (bind_elim hF (fun y91 hy91 hF=>uOs [0,1,2] [0,1,2] (v:=.bool y91) [.cells (cS a1++[rfv false a2 1 1]++[.map 2]),rfb cS a2,mpb (fun a=>AV.agg (cRing_tagged a)) (AV.int .i64) a3] (verify_holds_ev hy91) (tights_cons rfl (tights_cons (tight_agg (tights_lows (low_cVerify_tag _))) rfl)) (pl (b':=.cells (cS a1++[rfv false a2 1 1]++[.map 2])) (by kernel_rfl) (sb_cells (by kernel_rfl) (by kernel_rfl) (by kernel_rfl)) (pl (b':=rfb cS a2) (by kernel_rfl) (sb_low (noref_rfb low_cS _)) (pl (b':=mpb (fun a=>AV.agg (cRing_tagged a)) (AV.int .i64) a3) (by kernel_rfl) (sb_low (noref_mpb (fun _=>low_agg (low_cRing_tagged _)) (fun _=>rfl) _)) pl_nil))) rfl (sbs (sb_cells (by kernel_rfl) (by kernel_rfl) (by kernel_rfl)) (sbs (sb_low (noref_rfb low_cS _)) (sbs (sb_low (noref_mpb (fun _=>low_agg (low_cRing_tagged _)) (fun _=>rfl) _)) sbs_nil))) (wh 11 (we (ng ?_))))))))
   refine ite_elim hF (fun hc5 hF=>?_) (fun hc5 hF=>?_)
   ·refine kF 34 (show (!y91)=false by rw [hc5]; rfl) (xF (xk (block_n (ng (xq (wh 1 (we (ng (xt ?_)))))))))
    cases hF
    exact fS [0,1,2] (.inl rfl) rfl (sk rfl (sr low_cS rfl (sn (noref_mpb (fun _=>low_agg (low_cRing_tagged _)) (fun _=>rfl) _) rfl shh_nil))) ⟨rfl,rfl⟩
   refine kT 34 (show (!y91)=true by rw [hc5]; rfl) (xT (xq (wh 1 (we (ng (xt (block_r (then_r ?_))))))))
   cases hF
   exact fS [0,1,2] (.inl rfl) rfl (sk rfl (sr low_cS rfl (sn (noref_mpb (fun _=>low_agg (low_cRing_tagged _)) (fun _=>rfl) _) rfl shh_nil))) ⟨rfl,rfl⟩
  refine kT 8 (show (!y88)=true by rw [hc3]; rfl) (xT (xq (wh 1 (we (ng (xt (block_r (then_r ?_))))))))
  cases hF
  exact fS [0,1,2] (.inl rfl) rfl (sk rfl (sr low_cS rfl (sn (noref_mpb (fun _=>low_agg (low_cRing_tagged _)) (fun _=>rfl) _) rfl shh_nil))) ⟨rfl,rfl⟩
 refine wT 14 (show (!y86)=true by rw [hc2]; rfl) (wp 14 (we (de (ng (xT (xq (wh 1 (we (ng (xt (block_r (then_r ?_))))))))))))
 cases hF
 exact fS [0,1,2] (.inl rfl) rfl (sk rfl (sr low_cS rfl (sn (noref_mpb (fun _=>low_agg (low_cRing_tagged _)) (fun _=>rfl) _) rfl shh_nil))) ⟨rfl,rfl⟩
def internal_stringslite_HasPrefix_J1 (p95 : Bool) : Option Bool :=
  some p95
def internal_stringslite_HasPrefix (a0 : List UInt8) (a1 : List UInt8) : Option Bool :=
  if iGe (a0.length : Int) (a1.length : Int)=true then (cutS a0 none (some (a1.length : Int))).bind fun y99=>internal_stringslite_HasPrefix_J1 (y99==a1) else internal_stringslite_HasPrefix_J1 false
theorem internal_stringslite_HasPrefix_ev {a0 : List UInt8} {a1 : List UInt8} {r : Bool} (hF : internal_stringslite_HasPrefix a0 a1=some r) : EvCall Tryz.prog T G0 134 [.str a0,.str a1] [] (fun v H'=>v=.bool r∧H'=[]):=by
 refine xc Tryz.func134 ?_
 refine xq (wh 1 (we (ng ?_)))
 refine xj (fun fr H=>∃ (p95 : Bool) (g96 : Option Bool) (g97 : Option Bool) (g98 : Option Bool),fr=[.any,.any,.any,.any,.bool p95,.any,.any,.any,.any,.bool (iGe (a0.length : Int) (a1.length : Int)),junkB g96,.any,.any,.any,.any,.any,junkB g97,junkB g98]∧H=[]∧internal_stringslite_HasPrefix_J1 p95=some r) (fun fr H ⟨p95,g96,g97,g98,e1,e2,hF⟩=>?_) (fun hJ1=>?_)
 ·subst e1 e2
  refine xt ?_
  cases hF
  exact fE [] (.inl rfl) rfl ⟨rfl,rfl⟩
 refine xr (wh 6 ?_)
 refine ite_elim hF (fun hc1 hF=>?_) (fun hc1 hF=>?_)
 ·exact wT 10 hc1 (wh 9 (bind_elim hF (fun y99 hy99 hF=>w_cut (by kernel_rfl) hy99 (wh 14 (we (then_n (x_to hJ1 (VS.sm 261615) ⟨(y99==a1),(some true),(some (y99==a1)),(some (y99==a1)),rfl,rfl,hF⟩)))))))
 exact wF 10 hc1 (wh 14 (we (then_n (x_to hJ1 (VS.sm 261615) ⟨false,(some false),none,(some false),rfl,rfl,hF⟩))))
def strings_HasPrefix (a0 : List UInt8) (a1 : List UInt8) : Option Bool :=
  (internal_stringslite_HasPrefix a0 a1).bind fun y94=>some y94
theorem strings_HasPrefix_ev {a0 : List UInt8} {a1 : List UInt8} {r : Bool} (hF : strings_HasPrefix a0 a1=some r) : EvCall Tryz.prog T G0 101 [.str a0,.str a1] [] (fun v H'=>v=.bool r∧H'=[]):=by
 refine xc Tryz.func101 ?_
 refine xq (wh 1 (we (ng (xq (wh 2 (bind_elim hF (fun y94 hy94 hF=>uC (internal_stringslite_HasPrefix_ev hy94) (lows_cons rfl (lows_cons rfl rfl)) rfl (wh 4 (we (ng (xt ?_)))))))))))
 cases hF
 exact fE [] (.inl rfl) rfl ⟨rfl,rfl⟩
def hist_Goes (a0 : List UInt8) (a1 : List UInt8) : Option Bool :=
  (strings_HasPrefix a0 a1).bind fun y94=>some y94
theorem hist_Goes_ev {a0 : List UInt8} {a1 : List UInt8} {r : Bool} (hF : hist_Goes a0 a1=some r) : EvCall Tryz.prog T G0 52 [.str a0,.str a1] [] (fun v H'=>v=.bool r∧H'=[]):=by
 refine xc Tryz.func52 ?_
 refine xq (wh 1 (we (ng (xq (wh 2 (bind_elim hF (fun y94 hy94 hF=>uC (strings_HasPrefix_ev hy94) (lows_cons rfl (lows_cons rfl rfl)) rfl (wh 4 (we (ng (xt ?_)))))))))))
 cases hF
 exact fE [] (.inl rfl) rfl ⟨rfl,rfl⟩
def msg_numbered_1_J1 (y142 : (Sl Int)) (p144 : List UInt8) : Option ((List UInt8)×(Sl Int)) :=
  (msg_writer_text p144 y142).bind fun y145=>some (p144,y145)
def msg_numbered_1 (a0 : Int) (a1 : List UInt8) (a2 : Sl Int) : Option ((List UInt8)×(Sl Int)) :=
  (msg_writer_ints (⟨false,true,[a0]⟩ : Sl Int) a2).bind fun y142=>if iGt (a1.length : Int) 16384=true then msg_numbered_1_J1 y142 [] else msg_numbered_1_J1 y142 a1
theorem msg_numbered_1_ev {a0 : Int} {a1 : List UInt8} {a2 : Sl Int} {r : (List UInt8)×(Sl Int)} (hF : msg_numbered_1 a0 a1 a2=some r) : EvCall Tryz.prog T G0 149 [.ptr 0 0,.ptr 1 0,.ptr 2 0] [.cells ([rfv false a2 3 1]),.cells ((cI .i64) a0),.cells (cS a1),rfb (cI .u8) a2] (fun v H'=>v=.tup []∧H'=[.cells ([rfv false r.2 4 1]),.cells ((cI .i64) a0),.cells (cS r.1),.dead,rfb (cI .u8) r.2]):=by
 refine xc Tryz.func149 ?_
 refine xq (wh 2 (w_frz (v:=sl (cI .i64) (⟨false,true,[a0]⟩ : Sl Int)) (by kernel_rfl) (bind_elim hF (fun y142 hy142 hF=>uO [0,3] [0,3,4] (v:=.tup []) [.cells ([rfv false y142 4 1]),.dead,rfb (cI .u8) y142] [.cells ([rfv false y142 4 1]),.cells ((cI .i64) a0),.cells (cS a1),.dead,rfb (cI .u8) y142] (msg_writer_ints_ev hy142) (tights_cons rfl (tights_cons (tight_sl low_cI) rfl)) (pl (b':=.cells ([rfv false a2 3 1])) (by kernel_rfl) (sb_cells (by kernel_rfl) (by kernel_rfl) (by kernel_rfl)) (pl (b':=rfb (cI .u8) a2) (by kernel_rfl) (sb_low (noref_rfb low_cI _)) pl_nil)) rfl (sbs (sb_cells (by kernel_rfl) (by kernel_rfl) (by kernel_rfl)) (sbs sb_dead (sbs (sb_low (noref_rfb low_cI _)) sbs_nil))) (we (ng ?_))))))
 refine xj (fun fr H=>∃ (p144 : List UInt8) (g143 : Option Bool),fr=[.ptr 0 0,.any,.ptr 2 0,.any,.any,.any,.any,.any,.any,.any,junkB g143,.any,.any,.any]∧H=[.cells ([rfv false y142 4 1]),.cells ((cI .i64) a0),.cells (cS p144),.dead,rfb (cI .u8) y142]∧msg_numbered_1_J1 y142 p144=some r) (fun fr H ⟨p144,g143,e1,e2,hF⟩=>?_) (fun hJ1=>?_)
 ·subst e1 e2
  refine xr (wh 2 (bind_elim hF (fun y145 hy145 hF=>uO [0,4] [0,4,5] (v:=.tup []) [.cells ([rfv false y145 5 1]),.dead,rfb (cI .u8) y145] [.cells ([rfv false y145 5 1]),.cells ((cI .i64) a0),.cells (cS p144),.dead,.dead,rfb (cI .u8) y145] (msg_writer_text_ev hy145) (by kernel_rfl) (pl (b':=.cells ([rfv false y142 4 1])) (by kernel_rfl) (sb_cells (by kernel_rfl) (by kernel_rfl) (by kernel_rfl)) (pl (b':=rfb (cI .u8) y142) (by kernel_rfl) (sb_low (noref_rfb low_cI _)) pl_nil)) rfl (sbs (sb_cells (by kernel_rfl) (by kernel_rfl) (by kernel_rfl)) (sbs sb_dead (sbs (sb_low (noref_rfb low_cI _)) sbs_nil))) (we ?_))))
  cases hF
  exact fS [0,1,2,3,5] (.inr rfl) rfl (sk rfl (sk rfl (sk rfl (shh rfl (shb_dead (by kernel_rfl)) (sr low_cI rfl shh_nil))))) ⟨rfl,rfl⟩
 refine xq (wh 3 (we (ng ?_)))
 refine ite_elim hF (fun hc1 hF=>?_) (fun hc1 hF=>?_)
 ·exact kT 10 hc1 (xT (xr (wr 1 [.cells ([rfv false y142 4 1]),.cells ((cI .i64) a0),.cells (cS []),.dead,rfb (cI .u8) y142] (we (then_n (x_to hJ1 (VS.sm 16378) ⟨[],(some true),rfl,rfl,hF⟩))))))
 exact kF 10 hc1 (xF (xk (then_n (x_to hJ1 (VS.sm 16378) ⟨a1,(some false),rfl,rfl,hF⟩))))
def msg_made_2 (a0 : Int) (a1 : List UInt8) : Option ((List UInt8)×(List UInt8)) :=
  (msg_numbered_1 a0 a1 (⟨true,true,[]⟩ : Sl Int)).bind fun y142=>some (bytesS y142.2.l,y142.1)
theorem msg_made_2_ev {a0 : Int} {a1 : List UInt8} {r : (List UInt8)×(List UInt8)} (hF : msg_made_2 a0 a1=some r) : EvCall Tryz.prog T G0 109 [.fn 149 [] [.ptr 0 0,.ptr 1 0]] [.cells ((cI .i64) a0),.cells (cS a1)] (fun v H'=>v=.str r.1∧H'=[.cells ((cI .i64) a0),.cells (cS r.2)]):=by
 refine xc Tryz.func109 ?_
 refine xq (wh 1 (we (ng (xq (wr 3 [.cells ((cI .i64) a0),.cells (cS a1),.cells (cMsg_writer (⟨(⟨true,true,[]⟩ : Sl Int)⟩ : Msg_writer))] (we (ng (xq (wh 2 (bind_elim hF (fun y142 hy142 hF=>uO [2,0,1] [2,0,1,3,4] (v:=.tup []) [.cells ([rfv false y142.2 4 1]),.cells ((cI .i64) a0),.cells (cS y142.1),.dead,rfb (cI .u8) y142.2] [.cells ((cI .i64) a0),.cells (cS y142.1),.cells ([rfv false y142.2 4 1]),.dead,rfb (cI .u8) y142.2] (EvCall.pre (args:=[.ptr 0 0,.ptr 1 0,.ptr 2 0]) (H:=[.cells ((cL (cI .u8)) (⟨true,true,[]⟩ : Sl Int)),.cells ((cI .i64) a0),.cells (cS a1)]) (VS.thawC (cI .u8) 0 0 1 (cs:=(cL (cI .u8)) (⟨true,true,[]⟩ : Sl Int)) (by kernel_rfl) (by kernel_rfl)) (msg_numbered_1_ev hy142)) (by kernel_rfl) (pl (b':=.cells ((cL (cI .u8)) (⟨true,true,[]⟩ : Sl Int))) (by kernel_rfl) (sb_cells (by kernel_rfl) (by kernel_rfl) (tights_lows ((low_cL low_cI) _))) (pl (b':=.cells ((cI .i64) a0)) (by kernel_rfl) (sb_cells (by kernel_rfl) (by kernel_rfl) (by kernel_rfl)) (pl (b':=.cells (cS a1)) (by kernel_rfl) (sb_cells (by kernel_rfl) (by kernel_rfl) (by kernel_rfl)) pl_nil))) rfl (sbs (sb_cells (by kernel_rfl) (by kernel_rfl) (by kernel_rfl)) (sbs (sb_cells (by kernel_rfl) (by kernel_rfl) (by kernel_rfl)) (sbs (sb_cells (by kernel_rfl) (by kernel_rfl) (by kernel_rfl)) (sbs sb_dead (sbs (sb_low (noref_rfb low_cI _)) sbs_nil))))) (we (ng (xq (wh 4 (w_rowstr (l:=4) (ex:=false) y142.2 (wh 6 (we (ng (xt ?_))))))))))))))))))))
 cases hF
 exact fS [0,1] (.inl rfl) rfl (sk rfl (sk rfl shh_nil)) ⟨rfl,rfl⟩
def msg_numbered (a0 : Int) (a1 : List UInt8) : Option (List UInt8) :=
  (msg_made_2 a0 a1).bind fun y142=>some y142.1
theorem msg_numbered_ev {a0 : Int} {a1 : List UInt8} {r : (List UInt8)} (hF : msg_numbered a0 a1=some r) : EvCall Tryz.prog T G0 137 [.int .i64 a0,.str a1] [] (fun v H'=>v=.str r∧H'=[]):=by
 refine xc Tryz.func137 ?_
 refine xq (wr 3 [.cells ((cI .i64) a0),.cells (cS a1)] (we (ng (xq (wh 1 (bind_elim hF (fun y142 hy142 hF=>uO [0,1] [0,1] (v:=.str y142.1) [.cells ((cI .i64) a0),.cells (cS y142.2)] [.cells ((cI .i64) a0),.cells (cS y142.2)] (msg_made_2_ev hy142) (by kernel_rfl) (pl (b':=.cells ((cI .i64) a0)) (by kernel_rfl) (sb_cells (by kernel_rfl) (by kernel_rfl) (by kernel_rfl)) (pl (b':=.cells (cS a1)) (by kernel_rfl) (sb_cells (by kernel_rfl) (by kernel_rfl) (by kernel_rfl)) pl_nil)) rfl (sbs (sb_cells (by kernel_rfl) (by kernel_rfl) (by kernel_rfl)) (sbs (sb_cells (by kernel_rfl) (by kernel_rfl) (by kernel_rfl)) sbs_nil)) (wh 3 (we (ng (xt ?_)))))))))))
 cases hF
 exact fE [] (.inl rfl) rfl ⟨rfl,rfl⟩
def msg_Data (a0 : Int) (a1 : List UInt8) : Option (List UInt8) :=
  (msg_numbered a0 a1).bind fun y142=>some y142
theorem msg_Data_ev {a0 : Int} {a1 : List UInt8} {r : (List UInt8)} (hF : msg_Data a0 a1=some r) : EvCall Tryz.prog T G0 103 [.int .i64 a0,.str a1] [] (fun v H'=>v=.str r∧H'=[]):=by
 refine xc Tryz.func103 ?_
 refine xq (wh 1 (we (ng (xq (wh 2 (bind_elim hF (fun y142 hy142 hF=>uC (msg_numbered_ev hy142) (lows_cons rfl (lows_cons rfl rfl)) rfl (wh 4 (we (ng (xt ?_)))))))))))
 cases hF
 exact fE [] (.inl rfl) rfl ⟨rfl,rfl⟩
def verify_read_J1  : Option Int :=
  some 0
def verify_read (a0 : List UInt8) (a1 : Int) (a2 : Reply) (a3 : List UInt8) (a4 : Sl (List UInt8)) (a5 : Mp Ring_tagged Int) : Option Int :=
  (histCountF a0 a1).bind fun y141=>if (a2.ValueNumber != y141)=true then some 8 else if (y141==0)=true then if (a2.Value==[])=true then if (a2.Seen==[])=true then some 0 else some 8 else some 8 else (msg_Data a2.ValueNumber a2.Value).bind fun y148=>(verify_holds (⟨a1,2,y148,a2.Data⟩ : Verify_tag) a3 a4 a5).bind fun y149=>if y149=true then if (a2.Seen==[])=true then if (y141 != 1)=true then some 8 else some 0 else (histCountF a2.Seen a1).bind fun y150=>(idxB a2.Seen (iSub .i64 (a2.Seen.length : Int) 1)).bind fun y169=>if (IntKind.wrap .i64 y169 != a1)=true then some 8 else (hist_Goes a0 a2.Seen).bind fun y170=>if y170=true then if (y150 != y141)=true then if (y150 != iSub .i64 y141 1)=true then some 8 else (verify_holds (⟨a1,3,a2.Seen,a2.SeenTag⟩ : Verify_tag) a3 a4 a5).bind fun y171=>if y171=true then verify_read_J1 else some 7 else (verify_holds (⟨a1,3,a2.Seen,a2.SeenTag⟩ : Verify_tag) a3 a4 a5).bind fun y172=>if y172=true then verify_read_J1 else some 7 else some 8 else some 7
theorem verify_read_ev {a0 : List UInt8} {a1 : Int} {a2 : Reply} {a3 : List UInt8} {a4 : Sl (List UInt8)} {a5 : Mp Ring_tagged Int} {r : Int} (hF : verify_read a0 a1 a2 a3 a4 a5=some r) : EvCall Tryz.prog T G0 54 [.ptr 0 0,.str a0,.int .i64 a1,.agg (cReply a2)] [.cells (cS a3++[rfv false a4 1 1]++[.map 2]),rfb cS a4,mpb (fun a=>AV.agg (cRing_tagged a)) (AV.int .i64) a5] (fun v H'=>v=.int .i64 r∧H'=[.cells (cS a3++[rfv false a4 1 1]++[.map 2]),rfb cS a4,mpb (fun a=>AV.agg (cRing_tagged a)) (AV.int .i64) a5]):=by
 refine xc Tryz.func54 ?_
 refine xq (wr 2 [.cells (cS a3++[rfv false a4 1 1]++[.map 2]),rfb cS a4,mpb (fun a=>AV.agg (cRing_tagged a)) (AV.int .i64) a5,.cells (cReply a2)] (we (ng (xq (wh 2 (bind_elim hF (fun y141 hy141 hF=>uC (histCountF_ev hy141) (lows_cons rfl (lows_cons rfl rfl)) rfl (wh 4 (we (ng (xs (xq (wh 4 (we (ng ?_)))))))))))))))
 refine ite_elim hF (fun hc1 hF=>?_) (fun hc1 hF=>?_)
 ·refine kT 17 hc1 (xT (xq (wh 1 (we (ng (xt (then_r ?_)))))))
  cases hF
  exact fS [0,1,2] (.inl rfl) rfl (sk rfl (sr low_cS rfl (sn (noref_mpb (fun _=>low_agg (low_cRing_tagged _)) (fun _=>rfl) _) rfl shh_nil))) ⟨rfl,rfl⟩
 refine kF 17 hc1 (xF (xk (ng (xs (xq (wh 2 (we (ng ?_))))))))
 refine ite_elim hF (fun hc2 hF=>?_) (fun hc2 hF=>?_)
 ·refine kT 19 hc2 (xT (xs (xq (wh 4 ?_))))
  refine ite_elim hF (fun hc3 hF=>?_) (fun hc3 hF=>?_)
  ·refine wF 23 (show (!(a2.Value==[]))=false by rw [hc3]; rfl) (wh 8 (we (ng ?_)))
   refine ite_elim hF (fun hc4 hF=>?_) (fun hc4 hF=>?_)
   ·refine kF 27 (show (!(a2.Seen==[]))=false by rw [hc4]; rfl) (xF (xk (ng (xq (wh 1 (we (ng (xt (then_r ?_)))))))))
    cases hF
    exact fS [0,1,2] (.inl rfl) rfl (sk rfl (sr low_cS rfl (sn (noref_mpb (fun _=>low_agg (low_cRing_tagged _)) (fun _=>rfl) _) rfl shh_nil))) ⟨rfl,rfl⟩
   refine kT 27 (show (!(a2.Seen==[]))=true by rw [hc4]; rfl) (xT (xq (wh 1 (we (ng (xt (then_r (then_r ?_))))))))
   cases hF
   exact fS [0,1,2] (.inl rfl) rfl (sk rfl (sr low_cS rfl (sn (noref_mpb (fun _=>low_agg (low_cRing_tagged _)) (fun _=>rfl) _) rfl shh_nil))) ⟨rfl,rfl⟩
  refine wT 23 (show (!(a2.Value==[]))=true by rw [hc3]; rfl) (wh 8 (we (ng (xT (xq (wh 1 (we (ng (xt (then_r (then_r ?_)))))))))))
  cases hF
  exact fS [0,1,2] (.inl rfl) rfl (sk rfl (sr low_cS rfl (sn (noref_mpb (fun _=>low_agg (low_cRing_tagged _)) (fun _=>rfl) _) rfl shh_nil))) ⟨rfl,rfl⟩
 refine kF 19 hc2 (xF (xk (ng (xs (xs (xd 0 call_ends callMono (wp 6 (bind_elim hF (fun y148 hy148 hF=>uC (msg_Data_ev hy148) (lows_cons rfl (lows_cons rfl rfl)) rfl (wp 10 (bind_elim hF (fun y149 hy149 hF=>uOs [0,1,2] [0,1,2] (v:=.bool y149) [.cells (cS a3++[rfv false a4 1 1]++[.map 2]),rfb cS a4,mpb (fun a=>AV.agg (cRing_tagged a)) (AV.int .i64) a5] (verify_holds_ev hy149) (tights_cons rfl (tights_cons (tight_agg (tights_lows (low_cVerify_tag _))) rfl)) (pl (b':=.cells (cS a3++[rfv false a4 1 1]++[.map 2])) (by kernel_rfl) (sb_cells (by kernel_rfl) (by kernel_rfl) (by kernel_rfl)) (pl (b':=rfb cS a4) (by kernel_rfl) (sb_low (noref_rfb low_cS _)) (pl (b':=mpb (fun a=>AV.agg (cRing_tagged a)) (AV.int .i64) a5) (by kernel_rfl) (sb_low (noref_mpb (fun _=>low_agg (low_cRing_tagged _)) (fun _=>rfl) _)) pl_nil))) rfl (sbs (sb_cells (by kernel_rfl) (by kernel_rfl) (by kernel_rfl)) (sbs (sb_low (noref_rfb low_cS _)) (sbs (sb_low (noref_mpb (fun _=>low_agg (low_cRing_tagged _)) (fun _=>rfl) _)) sbs_nil))) (wp 12 (we (de (ng ?_))))))))))))))))
 refine ite_elim hF (fun hc5 hF=>?_) (fun hc5 hF=>?_)
 ·refine kF 39 (show (!y149)=false by rw [hc5]; rfl) (xF (xk (ng (xs (xq (wh 3 (we (ng ?_))))))))
  refine ite_elim hF (fun hc6 hF=>?_) (fun hc6 hF=>?_)
  ·refine kT 42 hc6 (xT (xs (xq (wh 2 (we (ng ?_))))))
   refine ite_elim hF (fun hc7 hF=>?_) (fun hc7 hF=>?_)
   ·refine kT 44 hc7 (xT (xq (wh 1 (we (ng (xt (then_r (then_r ?_))))))))
    cases hF
    exact fS [0,1,2] (.inl rfl) rfl (sk rfl (sr low_cS rfl (sn (noref_mpb (fun _=>low_agg (low_cRing_tagged _)) (fun _=>rfl) _) rfl shh_nil))) ⟨rfl,rfl⟩
   refine kF 44 hc7 (xF (xk (ng (xq (wh 1 (we (ng (xt (then_r ?_)))))))))
   cases hF
   exact fS [0,1,2] (.inl rfl) rfl (sk rfl (sr low_cS rfl (sn (noref_mpb (fun _=>low_agg (low_cRing_tagged _)) (fun _=>rfl) _) rfl shh_nil))) ⟨rfl,rfl⟩
  refine kF 42 hc6 (xF (xk (ng (xq (wh 3 (bind_elim hF (fun y150 hy150 hF=>uC (histCountF_ev hy150) (lows_cons rfl (lows_cons rfl rfl)) rfl (wh 5 (we (ng ?_))))))))))
  refine xj (fun fr H=>∃ (g157 : Option Bool) (g158 : Option Bool) (g159 : Option Bool) (g160 : Option Bool) (g161 : Option Bool) (g162 : Option Bool) (g163 : Option Bool) (g164 : Option Bool) (g165 : Option Bool) (g166 : Option Bool),fr=[.any,.any,.any,.any,.any,.any,.any,.any,.any,.any,.any,.any,.any,.any,.any,.any,.any,.bool false,.any,.bool false,.any,.any,.any,.any,.any,.any,.any,.any,.any,.any,.any,.any,.any,.any,.any,.any,.any,.any,.bool y149,.bool false,.any,.any,.bool false,.any,.any,.any,.any,.any,.any,.bool false,.any,.any,.any,.any,.any,.any,.any,.any,.any,junkB g157,.bool false,.any,.any,.any,junkB g158,junkB g159,junkB g160,.bool false,.any,.any,.bool (y150 != y141),junkB g161,.any,.any,.any,junkB g162,junkB g163,junkB g164,.bool false,.any,.any,.any,.any,.any,.any,.any,junkB g165,junkB g166]∧H=[.cells (cS a3++[rfv false a4 1 1]++[.map 2]),rfb cS a4,mpb (fun a=>AV.agg (cRing_tagged a)) (AV.int .i64) a5]∧verify_read_J1=some r) (fun fr H ⟨g157,g158,g159,g160,g161,g162,g163,g164,g165,g166,e1,e2,hF⟩=>?_) (fun hJ1=>?_)
  ·subst e1 e2
   refine xq (wh 1 (we (ng (xt ?_))))
   cases hF
   exact fS [0,1,2] (.inl rfl) rfl (sk rfl (sr low_cS rfl (sn (noref_mpb (fun _=>low_agg (low_cRing_tagged _)) (fun _=>rfl) _) rfl shh_nil))) ⟨rfl,rfl⟩
  refine xb (xq (wh 6 (bind_elim hF (fun y169 hy169 hF=>w_idx (by kernel_rfl) hy169 (wh 11 ?_)))))
  refine ite_elim hF (fun hc8 hF=>?_) (fun hc8 hF=>?_)
  ·refine wT 60 hc8 (wh 29 (we (ng (xT (xq (wh 1 (we (ng (xt (block_r (then_r ?_)))))))))))
   cases hF
   exact fS [0,1,2] (.inl rfl) rfl (sk rfl (sr low_cS rfl (sn (noref_mpb (fun _=>low_agg (low_cRing_tagged _)) (fun _=>rfl) _) rfl shh_nil))) ⟨rfl,rfl⟩
  refine wF 60 hc8 (wh 14 (bind_elim hF (fun y170 hy170 hF=>uC (hist_Goes_ev hy170) (lows_cons rfl (lows_cons rfl rfl)) rfl (wh 18 ?_))))
  refine ite_elim hF (fun hc9 hF=>?_) (fun hc9 hF=>?_)
  ·refine wF 67 (show (!y170)=false by rw [hc9]; rfl) (wh 22 ?_)
   refine ite_elim hF (fun hc10 hF=>?_) (fun hc10 hF=>?_)
   ·refine wT 71 hc10 (wh 29 (we (ng ?_)))
    refine ite_elim hF (fun hc11 hF=>?_) (fun hc11 hF=>?_)
    ·refine kT 49 hc11 (xT (xq (wh 1 (we (ng (xt (block_r (then_r ?_))))))))
     cases hF
     exact fS [0,1,2] (.inl rfl) rfl (sk rfl (sr low_cS rfl (sn (noref_mpb (fun _=>low_agg (low_cRing_tagged _)) (fun _=>rfl) _) rfl shh_nil))) ⟨rfl,rfl⟩
    refine kF 49 hc11 (xF (xq (wh 7 (bind_elim hF (fun y171 hy171 hF=>uOs [0,1,2] [0,1,2] (v:=.bool y171) [.cells (cS a3++[rfv false a4 1 1]++[.map 2]),rfb cS a4,mpb (fun a=>AV.agg (cRing_tagged a)) (AV.int .i64) a5] (verify_holds_ev hy171) (tights_cons rfl (tights_cons (tight_agg (tights_lows (low_cVerify_tag _))) rfl)) (pl (b':=.cells (cS a3++[rfv false a4 1 1]++[.map 2])) (by kernel_rfl) (sb_cells (by kernel_rfl) (by kernel_rfl) (by kernel_rfl)) (pl (b':=rfb cS a4) (by kernel_rfl) (sb_low (noref_rfb low_cS _)) (pl (b':=mpb (fun a=>AV.agg (cRing_tagged a)) (AV.int .i64) a5) (by kernel_rfl) (sb_low (noref_mpb (fun _=>low_agg (low_cRing_tagged _)) (fun _=>rfl) _)) pl_nil))) rfl (sbs (sb_cells (by kernel_rfl) (by kernel_rfl) (by kernel_rfl)) (sbs (sb_low (noref_rfb low_cS _)) (sbs (sb_low (noref_mpb (fun _=>low_agg (low_cRing_tagged _)) (fun _=>rfl) _)) sbs_nil))) (wh 10 (we (ng ?_))))))))
    refine ite_elim hF (fun hc12 hF=>?_) (fun hc12 hF=>?_)
    ·exact kF 78 (show (!y171)=false by rw [hc12]; rfl) (xF (xk (block_n (then_n (x_to hJ1 (VS.si [0,1,2] 309181449047378427102232575 (by kernel_rfl) (sk rfl (sr low_cS rfl (sn (noref_mpb (fun _=>low_agg (low_cRing_tagged _)) (fun _=>rfl) _) rfl shh_nil)))) ⟨(some (IntKind.wrap .i64 y169 != a1)),(some y170),(some (!y170)),(some (!y170)),(some true),(some (y150 != iSub .i64 y141 1)),(some (y150 != iSub .i64 y141 1)),(some (y150 != iSub .i64 y141 1)),(some y171),(some (!y171)),rfl,rfl,hF⟩)))))
    refine kT 78 (show (!y171)=true by rw [hc12]; rfl) (xT (xq (wh 1 (we (ng (xt (block_r (then_r ?_))))))))
    cases hF
    exact fS [0,1,2] (.inl rfl) rfl (sk rfl (sr low_cS rfl (sn (noref_mpb (fun _=>low_agg (low_cRing_tagged _)) (fun _=>rfl) _) rfl shh_nil))) ⟨rfl,rfl⟩
   refine wF 71 hc10 (wh 29 (we (ng (xF (xq (wh 7 (bind_elim hF (fun y172 hy172 hF=>uOs [0,1,2] [0,1,2] (v:=.bool y172) [.cells (cS a3++[rfv false a4 1 1]++[.map 2]),rfb cS a4,mpb (fun a=>AV.agg (cRing_tagged a)) (AV.int .i64) a5] (verify_holds_ev hy172) (tights_cons rfl (tights_cons (tight_agg (tights_lows (low_cVerify_tag _))) rfl)) (pl (b':=.cells (cS a3++[rfv false a4 1 1]++[.map 2])) (by kernel_rfl) (sb_cells (by kernel_rfl) (by kernel_rfl) (by kernel_rfl)) (pl (b':=rfb cS a4) (by kernel_rfl) (sb_low (noref_rfb low_cS _)) (pl (b':=mpb (fun a=>AV.agg (cRing_tagged a)) (AV.int .i64) a5) (by kernel_rfl) (sb_low (noref_mpb (fun _=>low_agg (low_cRing_tagged _)) (fun _=>rfl) _)) pl_nil))) rfl (sbs (sb_cells (by kernel_rfl) (by kernel_rfl) (by kernel_rfl)) (sbs (sb_low (noref_rfb low_cS _)) (sbs (sb_low (noref_mpb (fun _=>low_agg (low_cRing_tagged _)) (fun _=>rfl) _)) sbs_nil))) (wh 10 (we (ng ?_)))))))))))
   refine ite_elim hF (fun hc13 hF=>?_) (fun hc13 hF=>?_)
   ·exact kF 78 (show (!y172)=false by rw [hc13]; rfl) (xF (xk (block_n (then_n (x_to hJ1 (VS.si [0,1,2] 309181449047378427102232575 (by kernel_rfl) (sk rfl (sr low_cS rfl (sn (noref_mpb (fun _=>low_agg (low_cRing_tagged _)) (fun _=>rfl) _) rfl shh_nil)))) ⟨(some (IntKind.wrap .i64 y169 != a1)),(some y170),(some (!y170)),(some (!y170)),(some false),none,(some false),(some false),(some y172),(some (!y172)),rfl,rfl,hF⟩)))))
   refine kT 78 (show (!y172)=true by rw [hc13]; rfl) (xT (xq (wh 1 (we (ng (xt (block_r (then_r ?_))))))))
   cases hF
   exact fS [0,1,2] (.inl rfl) rfl (sk rfl (sr low_cS rfl (sn (noref_mpb (fun _=>low_agg (low_cRing_tagged _)) (fun _=>rfl) _) rfl shh_nil))) ⟨rfl,rfl⟩
  refine wT 67 (show (!y170)=true by rw [hc9]; rfl) (wh 29 (we (ng (xT (xq (wh 1 (we (ng (xt (block_r (then_r ?_)))))))))))
  cases hF
  exact fS [0,1,2] (.inl rfl) rfl (sk rfl (sr low_cS rfl (sn (noref_mpb (fun _=>low_agg (low_cRing_tagged _)) (fun _=>rfl) _) rfl shh_nil))) ⟨rfl,rfl⟩
 refine kT 39 (show (!y149)=true by rw [hc5]; rfl) (xT (xq (wh 1 (we (ng (xt (then_r ?_)))))))
 cases hF
 exact fS [0,1,2] (.inl rfl) rfl (sk rfl (sr low_cS rfl (sn (noref_mpb (fun _=>low_agg (low_cRing_tagged _)) (fun _=>rfl) _) rfl shh_nil))) ⟨rfl,rfl⟩
def verify_Check_J5 (a3 : Reply) (y88 : List UInt8) (p90 : Arr 32) (p93 : Int) (p94 : List UInt8) (p95 : List UInt8) (p96 : Arr 32) : Option (Got×Int) :=
  some ((⟨y88,p93,p94,a3.Last,a3.View,p90,p95,p96⟩ : Got),0)
def verify_Check_J4 (a2 : Submit) (a3 : Reply) (y88 : List UInt8) (p90 : Arr 32) : Option (Got×Int) :=
  if (a2.Kind==2)=true then if (a3.Seen==[])=true then verify_Check_J5 a3 y88 p90 a3.ValueNumber a3.Value a3.Seen (⟨[0,0,0,0,0,0,0,0,0,0,0,0,0,0,0,0,0,0,0,0,0,0,0,0,0,0,0,0,0,0,0,0],by rfl⟩ : Arr 32) else verify_Check_J5 a3 y88 p90 a3.ValueNumber a3.Value a3.Seen a3.SeenTag else verify_Check_J5 a3 y88 p90 0 [] [] (Arr.zero 32)
def verify_Check_J3 (a0 : Int) (a2 : Submit) (a3 : Reply) (p74 : List UInt8) (p84 : Int) : Option (Got×Int) :=
  if (p84 != 0)=true then some ((⟨[],0,[],0,[],(Arr.zero 32),[],(Arr.zero 32)⟩ : Got),p84) else (catS p74 (bytesS (⟨false,true,[IntKind.wrap .u8 a0]⟩ : Sl Int).l)).bind fun y88=>if (a3.View==[])=true then verify_Check_J4 a2 a3 y88 (⟨[0,0,0,0,0,0,0,0,0,0,0,0,0,0,0,0,0,0,0,0,0,0,0,0,0,0,0,0,0,0,0,0],by rfl⟩ : Arr 32) else verify_Check_J4 a2 a3 y88 a3.Commit
def verify_Check_J2 (a0 : Int) (a2 : Submit) (a3 : Reply) (a4 : List UInt8) (a5 : Sl (List UInt8)) (a6 : Mp Ring_tagged Int) (p74 : List UInt8) (p79 : Int) : Option (Got×Int) :=
  if (p79==0)=true then if (a2.Kind==2)=true then (verify_read p74 a2.Target a3 a4 a5 a6).bind fun y97=>verify_Check_J3 a0 a2 a3 p74 y97 else verify_Check_J3 a0 a2 a3 p74 p79 else verify_Check_J3 a0 a2 a3 p74 p79
def verify_Check_J1 (a0 : Int) (a2 : Submit) (a3 : Reply) (a4 : List UInt8) (a5 : Sl (List UInt8)) (a6 : Mp Ring_tagged Int) (p74 : List UInt8) (p75 : Int) : Option (Got×Int) :=
  if (p75==0)=true then if iGe (p74.length : Int) 512=true then verify_Check_J2 a0 a2 a3 a4 a5 a6 p74 11 else verify_Check_J2 a0 a2 a3 a4 a5 a6 p74 p75 else verify_Check_J2 a0 a2 a3 a4 a5 a6 p74 p75
def verify_Check_B118 (a0 : Int) (a2 : Submit) (a3 : Reply) (a4 : List UInt8) (a5 : Sl (List UInt8)) (a6 : Mp Ring_tagged Int) (k118 : ((List UInt8)×Int×Int)→Option (Got×Int)) (x118 : (List UInt8)×Int×Int) : Option (Got×Int) :=
  if iLt x118.2.2 (a3.Pending.l.length : Int)=true then (idxL a3.Pending.l x118.2.2).bind fun y121=>if (y121.Client==a0)=true then verify_Check_J1 a0 a2 a3 a4 a5 a6 x118.1 8 else (verify_Step x118.1 y121 a4 a5 a6).bind fun y122=>if (y122.2 != 0)=true then verify_Check_J1 a0 a2 a3 a4 a5 a6 y122.1 y122.2 else k118 (y122.1,y122.2,iAdd .i64 x118.2.2 1) else verify_Check_J1 a0 a2 a3 a4 a5 a6 x118.1 x118.2.1
def verify_Check (a0 : Int) (a1 : List UInt8) (a2 : Submit) (a3 : Reply) (a4 : List UInt8) (a5 : Sl (List UInt8)) (a6 : Mp Ring_tagged Int) : Option (Got×Int) :=
  (verify_may a0 a1 a2 a3 a4 a5 a6).bind fun y34=>if y34=true then (verify_long a3 a4 a5 a6).bind fun y36=>if (y36 != 0)=true then some ((⟨[],0,[],0,[],(Arr.zero 32),[],(Arr.zero 32)⟩ : Got),y36) else (hist_Goes a3.View a1).bind fun y46=>if y46=true then (histCountF a3.View a0).bind fun y47=>(histCountF a1 a0).bind fun y48=>if (y47 != y48)=true then some ((⟨[],0,[],0,[],(Arr.zero 32),[],(Arr.zero 32)⟩ : Got),8) else loopN (verify_Check_B118 a0 a2 a3 a4 a5 a6) FUEL (a3.View,0,0) else some ((⟨[],0,[],0,[],(Arr.zero 32),[],(Arr.zero 32)⟩ : Got),8) else some ((⟨[],0,[],0,[],(Arr.zero 32),[],(Arr.zero 32)⟩ : Got),2)
theorem verify_Check_ev {a0 : Int} {a1 : List UInt8} {a2 : Submit} {a3 : Reply} {a4 : List UInt8} {a5 : Sl (List UInt8)} {a6 : Mp Ring_tagged Int} {r : Got×Int} (hF : verify_Check a0 a1 a2 a3 a4 a5 a6=some r) : EvCall Tryz.prog T G0 15 [.ptr 0 0,.int .i64 a0,.str a1,.agg (cSubmit a2),.agg (cReply a3)] [.cells (cS a4++[rfv false a5 1 1]++[.map 2]),rfb cS a5,mpb (fun a=>AV.agg (cRing_tagged a)) (AV.int .i64) a6] (fun v H'=>v=.tup [.agg (cGot r.1),.int .i64 r.2]∧H'=[.cells (cS a4++[rfv false a5 1 1]++[.map 2]),rfb cS a5,mpb (fun a=>AV.agg (cRing_tagged a)) (AV.int .i64) a6]):=by
 refine xc Tryz.func15 ?_
 refine xq (wr 4 [.cells (cS a4++[rfv false a5 1 1]++[.map 2]),rfb cS a5,mpb (fun a=>AV.agg (cRing_tagged a)) (AV.int .i64) a6,.cells (cSubmit a2),.cells (cReply a3),.cells (cGot (⟨[],0,[],0,[],(Arr.zero 32),[],(Arr.zero 32)⟩ : Got))] (we (ng (x_scope (by kernel_rfl) (xs (xb (xq (wh 3 (we (ng (xF (xq (wh 5 (bind_elim hF (fun y34 hy34 hF=>uOs [0,1,2] [0,1,2] (v:=.bool y34) [.cells (cS a4++[rfv false a5 1 1]++[.map 2]),rfb cS a5,mpb (fun a=>AV.agg (cRing_tagged a)) (AV.int .i64) a6] (verify_may_ev hy34) (tights_cons rfl (tights_cons rfl (tights_cons rfl (tights_cons (tight_agg (tights_lows (low_cSubmit _))) (tights_cons (tight_agg (tights_lows (low_cReply _))) rfl))))) (pl (b':=.cells (cS a4++[rfv false a5 1 1]++[.map 2])) (by kernel_rfl) (sb_cells (by kernel_rfl) (by kernel_rfl) (by kernel_rfl)) (pl (b':=rfb cS a5) (by kernel_rfl) (sb_low (noref_rfb low_cS _)) (pl (b':=mpb (fun a=>AV.agg (cRing_tagged a)) (AV.int .i64) a6) (by kernel_rfl) (sb_low (noref_mpb (fun _=>low_agg (low_cRing_tagged _)) (fun _=>rfl) _)) pl_nil))) rfl (sbs (sb_cells (by kernel_rfl) (by kernel_rfl) (by kernel_rfl)) (sbs (sb_low (noref_rfb low_cS _)) (sbs (sb_low (noref_mpb (fun _=>low_agg (low_cRing_tagged _)) (fun _=>rfl) _)) sbs_nil))) (wh 8 (we (ng ?_))))))))))))))))))
 refine ite_elim hF (fun hc1 hF=>?_) (fun hc1 hF=>?_)
 ·refine kF 22 (show (!y34)=false by rw [hc1]; rfl) (xF (xk (block_n (ng (xs (xq (wh 2 (bind_elim hF (fun y36 hy36 hF=>uOs [0,1,2] [0,1,2] (v:=.int .i64 y36) [.cells (cS a4++[rfv false a5 1 1]++[.map 2]),rfb cS a5,mpb (fun a=>AV.agg (cRing_tagged a)) (AV.int .i64) a6] (verify_long_ev hy36) (tights_cons rfl (tights_cons (tight_agg (tights_lows (low_cReply _))) rfl)) (pl (b':=.cells (cS a4++[rfv false a5 1 1]++[.map 2])) (by kernel_rfl) (sb_cells (by kernel_rfl) (by kernel_rfl) (by kernel_rfl)) (pl (b':=rfb cS a5) (by kernel_rfl) (sb_low (noref_rfb low_cS _)) (pl (b':=mpb (fun a=>AV.agg (cRing_tagged a)) (AV.int .i64) a6) (by kernel_rfl) (sb_low (noref_mpb (fun _=>low_agg (low_cRing_tagged _)) (fun _=>rfl) _)) pl_nil))) rfl (sbs (sb_cells (by kernel_rfl) (by kernel_rfl) (by kernel_rfl)) (sbs (sb_low (noref_rfb low_cS _)) (sbs (sb_low (noref_mpb (fun _=>low_agg (low_cRing_tagged _)) (fun _=>rfl) _)) sbs_nil))) (wh 4 (we (ng (xq (wh 2 (we (ng ?_))))))))))))))))
  refine ite_elim hF (fun hc2 hF=>?_) (fun hc2 hF=>?_)
  ·refine kT 35 hc2 (xT (xq (wh 4 (we (ng (xt (then_r ?_)))))))
   cases hF
   exact fS [0,1,2] (.inl rfl) (tight_tup (tights_cons (tight_agg (tights_lows (low_cGot _))) (tights_cons rfl rfl))) (sk rfl (sr low_cS rfl (sn (noref_mpb (fun _=>low_agg (low_cRing_tagged _)) (fun _=>rfl) _) rfl shh_nil))) ⟨rfl,rfl⟩
  refine kF 35 hc2 (xF (xk (ng (xs (xq (wh 3 (bind_elim hF (fun y46 hy46 hF=>uC (hist_Goes_ev hy46) (lows_cons rfl (lows_cons rfl rfl)) rfl (wh 6 ?_)))))))))
  refine ite_elim hF (fun hc3 hF=>?_) (fun hc3 hF=>?_)
  ·refine wF 43 (show (!y46)=false by rw [hc3]; rfl) (wh 9 (bind_elim hF (fun y47 hy47 hF=>uC (histCountF_ev hy47) (lows_cons rfl (lows_cons rfl rfl)) rfl (wh 12 (bind_elim hF (fun y48 hy48 hF=>uC (histCountF_ev hy48) (lows_cons rfl (lows_cons rfl rfl)) rfl (wh 15 (we (ng ?_)))))))))
   refine ite_elim hF (fun hc4 hF=>?_) (fun hc4 hF=>?_)
   ·refine kT 52 hc4 (xT (xq (wh 3 (we (ng (xt (then_r ?_)))))))
    cases hF
    exact fS [0,1,2] (.inl rfl) (tight_tup (tights_cons (tight_agg (tights_lows (low_cGot _))) (tights_cons rfl rfl))) (sk rfl (sr low_cS rfl (sn (noref_mpb (fun _=>low_agg (low_cRing_tagged _)) (fun _=>rfl) _) rfl shh_nil))) ⟨rfl,rfl⟩
   refine kF 52 hc4 (xF (xk (ng (xq (wh 4 (we (ng (xs (xl (ng ?_))))))))))
   refine xj (fun fr H=>∃ (p74 : List UInt8) (p75 : Int) (g76 : Option Bool) (g77 : Option Bool) (g78 : Option Bool),fr=[.ptr 0 0,.int .i64 a0,.any,.any,.any,.any,.any,.any,.ptr 3 0,.ptr 4 0,.ptr 5 0,.any,.any,.str p74,.int .i64 p75,.any,.any,.any,.bool false,.any,.bool false,.any,.bool false,.any,.any,.any,.any,.any,.bool y34,.bool (!y34),.any,.any,.any,.any,.any,.bool false,.any,.any,.any,.any,.any,.bool y46,.bool (!y46),.bool false,.any,.any,.any,.any,.any,.any,.any,.bool (y47 != y48),.bool false,.any,.any,.any,.any,.any,.any,.any,junkB g76,.any,.any,.any,.any,.any,junkB g77,.any,.any,.any,.any,.any,.any,.any,.any,junkB g78,.any,.any,.any,.any,.any,.any,.any,.any,.any,.any,.any,.any,.any,.any,.any,.any,.any,.any,.any,.any,.any,.any,.any,.any,.any,.any,.any,.any,.any,.any,.any,.any,.any,.any,.any,.any,.any,.any,.any,.any,.any,.any,.any,.any,.any,.any,.any,.any,.any,.any,.any,.any,.any,.any,.any,.any,.any,.any,.any,.any,.any,.any,.any,.any]∧H=[.cells (cS a4++[rfv false a5 1 1]++[.map 2]),rfb cS a5,mpb (fun a=>AV.agg (cRing_tagged a)) (AV.int .i64) a6,.cells (cSubmit a2),.cells (cReply a3),.cells (cGot (⟨[],0,[],0,[],(Arr.zero 32),[],(Arr.zero 32)⟩ : Got))]∧verify_Check_J1 a0 a2 a3 a4 a5 a6 p74 p75=some r) (fun fr H ⟨p74,p75,g76,g77,g78,e1,e2,hF⟩=>?_) (fun hJ1=>?_)
   ·subst e1 e2
    refine xj (fun fr H=>∃ (p79 : Int) (g80 : Option Bool) (g81 : Option Bool) (g82 : Option Bool),fr=[.ptr 0 0,.int .i64 a0,.any,.any,.any,.any,.any,.any,.ptr 3 0,.ptr 4 0,.ptr 5 0,.any,.any,.str p74,.int .i64 p79,.any,.any,.any,.bool false,.any,.bool false,.any,.bool false,.any,.any,.any,.any,.any,.bool y34,.bool (!y34),.any,.any,.any,.any,.any,.bool false,.any,.any,.any,.any,.any,.bool y46,.bool (!y46),.bool false,.any,.any,.any,.any,.any,.any,.any,.bool (y47 != y48),.bool false,.any,.any,.any,.any,.any,.any,.any,junkB g76,.any,.any,.any,.any,.any,junkB g77,.any,.any,.any,.any,.any,.any,.any,.any,junkB g78,.any,.any,.bool (p75==0),junkB g80,.any,.any,junkB g81,junkB g82,.any,.any,.any,.any,.any,.any,.any,.any,.any,.any,.any,.any,.any,.any,.any,.any,.any,.any,.any,.any,.any,.any,.any,.any,.any,.any,.any,.any,.any,.any,.any,.any,.any,.any,.any,.any,.any,.any,.any,.any,.any,.any,.any,.any,.any,.any,.any,.any,.any,.any,.any,.any,.any,.any,.any,.any]∧H=[.cells (cS a4++[rfv false a5 1 1]++[.map 2]),rfb cS a5,mpb (fun a=>AV.agg (cRing_tagged a)) (AV.int .i64) a6,.cells (cSubmit a2),.cells (cReply a3),.cells (cGot (⟨[],0,[],0,[],(Arr.zero 32),[],(Arr.zero 32)⟩ : Got))]∧verify_Check_J2 a0 a2 a3 a4 a5 a6 p74 p79=some r) (fun fr H ⟨p79,g80,g81,g82,e1,e2,hF⟩=>?_) (fun hJ2=>?_)
    ·subst e1 e2
     refine xj (fun fr H=>∃ (p84 : Int) (g85 : Option Bool) (g86 : Option Bool) (g87 : Option Bool),fr=[.any,.int .i64 a0,.any,.any,.any,.any,.any,.any,.ptr 3 0,.ptr 4 0,.ptr 5 0,.any,.any,.str p74,.int .i64 p84,.any,.any,.any,.bool false,.any,.bool false,.any,.bool false,.any,.any,.any,.any,.any,.bool y34,.bool (!y34),.any,.any,.any,.any,.any,.bool false,.any,.any,.any,.any,.any,.bool y46,.bool (!y46),.bool false,.any,.any,.any,.any,.any,.any,.any,.bool (y47 != y48),.bool false,.any,.any,.any,.any,.any,.any,.any,junkB g76,.any,.any,.any,.any,.any,junkB g77,.any,.any,.any,.any,.any,.any,.any,.any,junkB g78,.any,.any,.bool (p75==0),junkB g80,.any,.any,junkB g81,junkB g82,.any,.bool (p79==0),junkB g85,.any,.any,junkB g86,junkB g87,.any,.any,.any,.any,.any,.any,.any,.any,.any,.any,.any,.any,.any,.any,.any,.any,.any,.any,.any,.any,.any,.any,.any,.any,.any,.any,.any,.any,.any,.any,.any,.any,.any,.any,.any,.any,.any,.any,.any,.any,.any,.any,.any,.any,.any,.any,.any,.any,.any]∧H=[.cells (cS a4++[rfv false a5 1 1]++[.map 2]),rfb cS a5,mpb (fun a=>AV.agg (cRing_tagged a)) (AV.int .i64) a6,.cells (cSubmit a2),.cells (cReply a3),.cells (cGot (⟨[],0,[],0,[],(Arr.zero 32),[],(Arr.zero 32)⟩ : Got))]∧verify_Check_J3 a0 a2 a3 p74 p84=some r) (fun fr H ⟨p84,g85,g86,g87,e1,e2,hF⟩=>?_) (fun hJ3=>?_)
     ·subst e1 e2
      refine xs (xq (wh 2 (we (ng ?_))))
      refine ite_elim hF (fun hc5 hF=>?_) (fun hc5 hF=>?_)
      ·refine kT 98 hc5 (xT (xq (wh 4 (we (ng (xt (then_r ?_)))))))
       cases hF
       exact fS [0,1,2] (.inl rfl) (tight_tup (tights_cons (tight_agg (tights_lows (low_cGot _))) (tights_cons rfl rfl))) (sk rfl (sr low_cS rfl (sn (noref_mpb (fun _=>low_agg (low_cRing_tagged _)) (fun _=>rfl) _) rfl shh_nil))) ⟨rfl,rfl⟩
      refine kF 98 hc5 (xF (xk (ng (xq (wh 3 (w_frz (v:=sl (cI .u8) (⟨false,true,[IntKind.wrap .u8 a0]⟩ : Sl Int)) (by kernel_rfl) (w_str (l:=(⟨false,true,[IntKind.wrap .u8 a0]⟩ : Sl Int).l) (by kernel_rfl) (bind_elim hF (fun y88 hy88 hF=>w_cat (by kernel_rfl) hy88 (wr 15 [.cells (cS a4++[rfv false a5 1 1]++[.map 2]),rfb cS a5,mpb (fun a=>AV.agg (cRing_tagged a)) (AV.int .i64) a6,.cells (cSubmit a2),.cells (cReply a3),.cells (cGot (⟨[],0,[],0,[],(Arr.zero 32),[],(Arr.zero 32)⟩ : Got)),.cells (cGot (⟨y88,0,[],a3.Last,a3.View,a3.Commit,[],(Arr.zero 32)⟩ : Got))] (we (ng ?_))))))))))))
      refine xj (fun fr H=>∃ (p90 : Arr 32) (g89 : Option Bool),fr=[.any,.any,.any,.any,.any,.any,.any,.any,.ptr 3 0,.ptr 4 0,.ptr 5 0,.any,.any,.any,.any,.any,.any,.ptr 6 0,.bool false,.any,.bool false,.any,.bool false,.any,.any,.any,.any,.any,.bool y34,.bool (!y34),.any,.any,.any,.any,.any,.bool false,.any,.any,.any,.any,.any,.bool y46,.bool (!y46),.bool false,.any,.any,.any,.any,.any,.any,.any,.bool (y47 != y48),.bool false,.any,.any,.any,.any,.any,.any,.any,junkB g76,.any,.any,.any,.any,.any,junkB g77,.any,.any,.any,.any,.any,.any,.any,.any,junkB g78,.any,.any,.bool (p75==0),junkB g80,.any,.any,junkB g81,junkB g82,.any,.bool (p79==0),junkB g85,.any,.any,junkB g86,junkB g87,.any,.any,.any,.any,.any,.any,.any,.bool false,.any,.any,.any,.any,.any,.any,.any,.any,.any,.any,.any,.any,.any,.any,.any,.any,.any,junkB g89,.any,.any,.any,.any,.any,.any,.any,.any,.any,.any,.any,.any,.any,.any,.any,.any,.any,.any,.any,.any,.any,.any,.any]∧H=[.cells (cS a4++[rfv false a5 1 1]++[.map 2]),rfb cS a5,mpb (fun a=>AV.agg (cRing_tagged a)) (AV.int .i64) a6,.cells (cSubmit a2),.cells (cReply a3),.cells (cGot (⟨[],0,[],0,[],(Arr.zero 32),[],(Arr.zero 32)⟩ : Got)),.cells (cS y88++(cI .i64) 0++cS []++(cI .i64) a3.Last++cS a3.View++(cA .u8) p90++cS []++(cA .u8) (Arr.zero 32))]∧verify_Check_J4 a2 a3 y88 p90=some r) (fun fr H ⟨p90,g89,e1,e2,hF⟩=>?_) (fun hJ4=>?_)
      ·subst e1 e2
       refine xj (fun fr H=>∃ (p93 : Int) (p94 : List UInt8) (p95 : List UInt8) (p96 : Arr 32) (g91 : Option Bool) (g92 : Option Bool),fr=[.any,.any,.any,.any,.any,.any,.any,.any,.any,.any,.ptr 3 0,.any,.any,.any,.any,.any,.any,.ptr 4 0,.bool false,.any,.bool false,.any,.bool false,.any,.any,.any,.any,.any,.bool y34,.bool (!y34),.any,.any,.any,.any,.any,.bool false,.any,.any,.any,.any,.any,.bool y46,.bool (!y46),.bool false,.any,.any,.any,.any,.any,.any,.any,.bool (y47 != y48),.bool false,.any,.any,.any,.any,.any,.any,.any,junkB g76,.any,.any,.any,.any,.any,junkB g77,.any,.any,.any,.any,.any,.any,.any,.any,junkB g78,.any,.any,.bool (p75==0),junkB g80,.any,.any,junkB g81,junkB g82,.any,.bool (p79==0),junkB g85,.any,.any,junkB g86,junkB g87,.any,.any,.any,.any,.any,.any,.any,.bool false,.any,.any,.any,.any,.any,.any,.any,.any,.any,.any,.any,.any,.any,.any,.any,.any,.any,junkB g89,.any,.any,.any,.any,junkB g91,.any,.any,.any,.any,.any,.any,.any,.any,.any,.any,.any,.any,.any,.any,junkB g92,.any,.any,.any]∧H=[.cells (cS a4++[rfv false a5 1 1]++[.map 2]),rfb cS a5,mpb (fun a=>AV.agg (cRing_tagged a)) (AV.int .i64) a6,.cells (cGot (⟨[],0,[],0,[],(Arr.zero 32),[],(Arr.zero 32)⟩ : Got)),.cells (cS y88++(cI .i64) p93++cS p94++(cI .i64) a3.Last++cS a3.View++(cA .u8) p90++cS p95++(cA .u8) p96)]∧verify_Check_J5 a3 y88 p90 p93 p94 p95 p96=some r) (fun fr H ⟨p93,p94,p95,p96,g91,g92,e1,e2,hF⟩=>?_) (fun hJ5=>?_)
       ·subst e1 e2
        refine xq (wr 3 [.cells (cS a4++[rfv false a5 1 1]++[.map 2]),rfb cS a5,mpb (fun a=>AV.agg (cRing_tagged a)) (AV.int .i64) a6,.cells (cGot (⟨y88,p93,p94,a3.Last,a3.View,p90,p95,p96⟩ : Got)),.cells (cS y88++(cI .i64) p93++cS p94++(cI .i64) a3.Last++cS a3.View++(cA .u8) p90++cS p95++(cA .u8) p96)] (we (ng (xt ?_))))
        cases hF
        exact fS [0,1,2] (.inl rfl) (tight_tup (tights_cons (tight_agg (tights_lows (low_cGot _))) (tights_cons rfl rfl))) (sk rfl (sr low_cS rfl (sn (noref_mpb (fun _=>low_agg (low_cRing_tagged _)) (fun _=>rfl) _) rfl shh_nil))) ⟨rfl,rfl⟩
       refine xq (wh 3 (we (ng ?_)))
       refine ite_elim hF (fun hc6 hF=>?_) (fun hc6 hF=>?_)
       ·refine kT 121 hc6 (xT (xs (x_rows 578435488172802561 95 [⟨5,[6],[2,3,6],[],[3]⟩,⟨7,[],[],[],[]⟩] call_ends callMono (by kernel_rfl) (by kernel_rfl) (wp 5 (we (rows_next (wr 1 [.cells (cS a4++[rfv false a5 1 1]++[.map 2]),rfb cS a5,mpb (fun a=>AV.agg (cRing_tagged a)) (AV.int .i64) a6,.cells (cSubmit a2),.cells (cReply a3),.cells (cGot (⟨[],0,[],0,[],(Arr.zero 32),[],(Arr.zero 32)⟩ : Got)),.cells (cS y88++(cI .i64) a3.ValueNumber++cS []++(cI .i64) a3.Last++cS a3.View++(cA .u8) p90++cS []++(cA .u8) (Arr.zero 32))] (we (⟨⟨(by kernel_rfl),chksC_of (by kernel_rfl) (by kernel_rfl)⟩,(wp 1 (we (rows_next (wr 1 [.cells (cS a4++[rfv false a5 1 1]++[.map 2]),rfb cS a5,mpb (fun a=>AV.agg (cRing_tagged a)) (AV.int .i64) a6,.cells (cSubmit a2),.cells (cReply a3),.cells (cGot (⟨[],0,[],0,[],(Arr.zero 32),[],(Arr.zero 32)⟩ : Got)),.cells (cS y88++(cI .i64) a3.ValueNumber++cS a3.Value++(cI .i64) a3.Last++cS a3.View++(cA .u8) p90++cS []++(cA .u8) (Arr.zero 32))] (we (⟨⟨(by kernel_rfl),trivial⟩,(we (rows_done (de (ng (xs (x_rows 578435488172802561 95 [⟨5,[6],[2,3,6],[],[3]⟩,⟨7,[],[],[],[]⟩] call_ends callMono (by kernel_rfl) (by kernel_rfl) (wp 5 (we (rows_next (wr 1 [.cells (cS a4++[rfv false a5 1 1]++[.map 2]),rfb cS a5,mpb (fun a=>AV.agg (cRing_tagged a)) (AV.int .i64) a6,.cells (cSubmit a2),.cells (cReply a3),.cells (cGot (⟨[],0,[],0,[],(Arr.zero 32),[],(Arr.zero 32)⟩ : Got)),.cells (cS y88++(cI .i64) a3.ValueNumber++cS a3.Value++(cI .i64) a3.Last++cS a3.View++(cA .u8) p90++cS a3.Seen++(cA .u8) (Arr.zero 32))] (we (⟨⟨(by kernel_rfl),chksC_of (by kernel_rfl) (by kernel_rfl)⟩,(wp 1 (we ?_))⟩))))))))))))⟩))))))⟩)))))))))
        refine rows_next (wr 1 [.cells (cS a4++[rfv false a5 1 1]++[.map 2]),rfb cS a5,mpb (fun a=>AV.agg (cRing_tagged a)) (AV.int .i64) a6,.cells (cSubmit a2),.cells (cReply a3),.cells (cGot (⟨[],0,[],0,[],(Arr.zero 32),[],(Arr.zero 32)⟩ : Got)),.cells (cS y88++(cI .i64) a3.ValueNumber++cS a3.Value++(cI .i64) a3.Last++cS a3.View++(cA .u8) p90++cS a3.Seen++(cA .u8) a3.SeenTag)] (we (⟨⟨(by kernel_rfl),trivial⟩,(we (rows_done (de (ng (xq (wh 3 (we (ng ?_))))))))⟩)))
        refine ite_elim hF (fun hc7 hF=>?_) (fun hc7 hF=>?_)
        ·exact kT 136 hc7 (xT (xr (wr 3 [.cells (cS a4++[rfv false a5 1 1]++[.map 2]),rfb cS a5,mpb (fun a=>AV.agg (cRing_tagged a)) (AV.int .i64) a6,.cells (cSubmit a2),.cells (cReply a3),.cells (cGot (⟨[],0,[],0,[],(Arr.zero 32),[],(Arr.zero 32)⟩ : Got)),.cells (cS y88++(cI .i64) a3.ValueNumber++cS a3.Value++(cI .i64) a3.Last++cS a3.View++(cA .u8) p90++cS a3.Seen++(cA .u8) (⟨[0,0,0,0,0,0,0,0,0,0,0,0,0,0,0,0,0,0,0,0,0,0,0,0,0,0,0,0,0,0,0,0],by rfl⟩ : Arr 32))] (we (then_n (x_to hJ5 (VS.shX [0,1,2,5,6] 1393796491831095308720087588509287671528447 [60,66,75,79,82,83,86,89,90,116] (by kernel_rfl) (by kernel_rfl) (by kernel_rfl) (by exact ⟨low_junk g76,low_junk g77,low_junk g78,low_junk g80,low_junk g81,low_junk g82,low_junk g85,low_junk g86,low_junk g87,low_junk g89,trivial⟩) (tights_at [60,66,75,79,82,83,86,89,90,116] (by kernel_rfl) (by exact ⟨(tight_junk g76),(tight_junk g77),(tight_junk g78),(tight_junk g80),(tight_junk g81),(tight_junk g82),(tight_junk g85),(tight_junk g86),(tight_junk g87),(tight_junk g89),trivial⟩)) (sk rfl (sr low_cS rfl (sn (noref_mpb (fun _=>low_agg (low_cRing_tagged _)) (fun _=>rfl) _) rfl (sk rfl (sk rfl shh_nil)))))) ⟨a3.ValueNumber,a3.Value,a3.Seen,(⟨[0,0,0,0,0,0,0,0,0,0,0,0,0,0,0,0,0,0,0,0,0,0,0,0,0,0,0,0,0,0,0,0],by rfl⟩ : Arr 32),(some true),(some true),rfl,rfl,hF⟩))))))
        exact kF 136 hc7 (xF (xk (then_n (x_to hJ5 (VS.shX [0,1,2,5,6] 1393796491831095308720087588509287671528447 [60,66,75,79,82,83,86,89,90,116] (by kernel_rfl) (by kernel_rfl) (by kernel_rfl) (by exact ⟨low_junk g76,low_junk g77,low_junk g78,low_junk g80,low_junk g81,low_junk g82,low_junk g85,low_junk g86,low_junk g87,low_junk g89,trivial⟩) (tights_at [60,66,75,79,82,83,86,89,90,116] (by kernel_rfl) (by exact ⟨(tight_junk g76),(tight_junk g77),(tight_junk g78),(tight_junk g80),(tight_junk g81),(tight_junk g82),(tight_junk g85),(tight_junk g86),(tight_junk g87),(tight_junk g89),trivial⟩)) (sk rfl (sr low_cS rfl (sn (noref_mpb (fun _=>low_agg (low_cRing_tagged _)) (fun _=>rfl) _) rfl (sk rfl (sk rfl shh_nil)))))) ⟨a3.ValueNumber,a3.Value,a3.Seen,a3.SeenTag,(some true),(some false),rfl,rfl,hF⟩))))
       exact kF 121 hc6 (xF (xk (then_n (x_to hJ5 (VS.shX [0,1,2,5,6] 1393796491831095308720087588509287671528447 [60,66,75,79,82,83,86,89,90,116] (by kernel_rfl) (by kernel_rfl) (by kernel_rfl) (by exact ⟨low_junk g76,low_junk g77,low_junk g78,low_junk g80,low_junk g81,low_junk g82,low_junk g85,low_junk g86,low_junk g87,low_junk g89,trivial⟩) (tights_at [60,66,75,79,82,83,86,89,90,116] (by kernel_rfl) (by exact ⟨(tight_junk g76),(tight_junk g77),(tight_junk g78),(tight_junk g80),(tight_junk g81),(tight_junk g82),(tight_junk g85),(tight_junk g86),(tight_junk g87),(tight_junk g89),trivial⟩)) (sk rfl (sr low_cS rfl (sn (noref_mpb (fun _=>low_agg (low_cRing_tagged _)) (fun _=>rfl) _) rfl (sk rfl (sk rfl shh_nil)))))) ⟨0,[],[],(Arr.zero 32),(some false),none,rfl,rfl,hF⟩))))
      refine xq (wh 3 (we (ng ?_)))
      refine ite_elim hF (fun hc8 hF=>?_) (fun hc8 hF=>?_)
      ·exact kT 116 hc8 (xT (xr (wr 3 [.cells (cS a4++[rfv false a5 1 1]++[.map 2]),rfb cS a5,mpb (fun a=>AV.agg (cRing_tagged a)) (AV.int .i64) a6,.cells (cSubmit a2),.cells (cReply a3),.cells (cGot (⟨[],0,[],0,[],(Arr.zero 32),[],(Arr.zero 32)⟩ : Got)),.cells (cS y88++(cI .i64) 0++cS []++(cI .i64) a3.Last++cS a3.View++(cA .u8) (⟨[0,0,0,0,0,0,0,0,0,0,0,0,0,0,0,0,0,0,0,0,0,0,0,0,0,0,0,0,0,0,0,0],by rfl⟩ : Arr 32)++cS []++(cA .u8) (Arr.zero 32))] (we (then_n (x_to hJ4 (VS.sm 1393796574907845045277329644997228939049215) ⟨(⟨[0,0,0,0,0,0,0,0,0,0,0,0,0,0,0,0,0,0,0,0,0,0,0,0,0,0,0,0,0,0,0,0],by rfl⟩ : Arr 32),(some true),rfl,rfl,hF⟩))))))
      exact kF 116 hc8 (xF (xk (then_n (x_to hJ4 (VS.sm 1393796574907845045277329644997228939049215) ⟨a3.Commit,(some false),rfl,rfl,hF⟩))))
     refine xq (wh 3 ?_)
     refine ite_elim hF (fun hc9 hF=>?_) (fun hc9 hF=>?_)
     ·refine wT 86 hc9 (wh 7 (we (ng ?_)))
      refine ite_elim hF (fun hc10 hF=>?_) (fun hc10 hF=>?_)
      ·exact kT 90 hc10 (xT (xr (wh 5 (bind_elim hF (fun y97 hy97 hF=>uOs [0,1,2] [0,1,2] (v:=.int .i64 y97) [.cells (cS a4++[rfv false a5 1 1]++[.map 2]),rfb cS a5,mpb (fun a=>AV.agg (cRing_tagged a)) (AV.int .i64) a6] (verify_read_ev hy97) (tights_cons rfl (tights_cons rfl (tights_cons rfl (tights_cons (tight_agg (tights_lows (low_cReply _))) rfl)))) (pl (b':=.cells (cS a4++[rfv false a5 1 1]++[.map 2])) (by kernel_rfl) (sb_cells (by kernel_rfl) (by kernel_rfl) (by kernel_rfl)) (pl (b':=rfb cS a5) (by kernel_rfl) (sb_low (noref_rfb low_cS _)) (pl (b':=mpb (fun a=>AV.agg (cRing_tagged a)) (AV.int .i64) a6) (by kernel_rfl) (sb_low (noref_mpb (fun _=>low_agg (low_cRing_tagged _)) (fun _=>rfl) _)) pl_nil))) rfl (sbs (sb_cells (by kernel_rfl) (by kernel_rfl) (by kernel_rfl)) (sbs (sb_low (noref_rfb low_cS _)) (sbs (sb_low (noref_mpb (fun _=>low_agg (low_cRing_tagged _)) (fun _=>rfl) _)) sbs_nil))) (wh 7 (we (then_n (x_to hJ3 (VS.sm 1393796574908163892208698085754282644838653) ⟨y97,(some true),(some (a2.Kind==2)),(some true),rfl,rfl,hF⟩)))))))))
      exact kF 90 hc10 (xF (xk (then_n (x_to hJ3 (VS.sm 1393796574908163892208698085754282644838653) ⟨p79,(some true),(some (a2.Kind==2)),(some false),rfl,rfl,hF⟩))))
     exact wF 86 hc9 (wh 7 (we (ng (xF (xk (then_n (x_to hJ3 (VS.sm 1393796574908163892208698085754282644838653) ⟨p79,(some false),none,(some false),rfl,rfl,hF⟩)))))))
    refine xq (wh 3 ?_)
    refine ite_elim hF (fun hc11 hF=>?_) (fun hc11 hF=>?_)
    ·refine wT 79 hc11 (wh 7 (we (ng ?_)))
     refine ite_elim hF (fun hc12 hF=>?_) (fun hc12 hF=>?_)
     ·exact kT 83 hc12 (xT (xr (wh 1 (we (then_n (x_to hJ2 (VS.sm 1393796574908163946005897058605280919263484) ⟨11,(some true),(some (iGe (p74.length : Int) 512)),(some true),rfl,rfl,hF⟩))))))
     exact kF 83 hc12 (xF (xk (then_n (x_to hJ2 (VS.sm 1393796574908163946005897058605280919263484) ⟨p75,(some true),(some (iGe (p74.length : Int) 512)),(some false),rfl,rfl,hF⟩))))
    exact wF 79 hc11 (wh 7 (we (ng (xF (xk (then_n (x_to hJ2 (VS.sm 1393796574908163946005897058605280919263484) ⟨p75,(some false),none,(some false),rfl,rfl,hF⟩)))))))
   refine xq (wh 4 (we (ng (xb (x_loop (fun d fr H=>∃ (x118 : (List UInt8)×Int×Int) (g105 : Option Bool) (g106 : Option Bool) (g107 : Option Bool),fr=[.ptr 0 0,.int .i64 a0,.any,.any,.any,.any,.any,.any,.ptr 3 0,.ptr 4 0,.ptr 5 0,.any,.any,.str x118.1,.int .i64 x118.2.1,.any,.any,.any,.bool false,.any,.bool false,.any,.bool false,.any,.any,.any,.any,.any,.bool y34,.bool (!y34),.any,.any,.any,.any,.any,.bool false,.any,.any,.any,.any,.any,.bool y46,.bool (!y46),.bool false,.any,.any,.any,.any,.any,.any,.any,.bool (y47 != y48),.bool false,.any,.any,.any,.any,sl cPending a3.Pending,.int .i64 (a3.Pending.l.length : Int),.int .i64 x118.2.2,junkB g105,.any,.any,.any,.any,.any,junkB g106,.any,.any,.any,.any,.any,.any,.any,.any,junkB g107,.any,.any,.any,.any,.any,.any,.any,.any,.any,.any,.any,.any,.any,.any,.any,.any,.any,.any,.any,.any,.any,.any,.any,.any,.any,.any,.any,.any,.any,.any,.any,.any,.any,.any,.any,.any,.any,.any,.any,.any,.any,.any,.any,.any,.any,.any,.any,.any,.any,.any,.any,.any,.any,.any,.any,.any,.any,.any,.any,.any,.any,.any,.any,.any]∧H=[.cells (cS a4++[rfv false a5 1 1]++[.map 2]),rfb cS a5,mpb (fun a=>AV.agg (cRing_tagged a)) (AV.int .i64) a6,.cells (cSubmit a2),.cells (cReply a3),.cells (cGot (⟨[],0,[],0,[],(Arr.zero 32),[],(Arr.zero 32)⟩ : Got))]∧loopN (verify_Check_B118 a0 a2 a3 a4 a5 a6) d x118=some r) (by kernel_rfl) (fun fr H ⟨x118,g105,g106,g107,e1,e2,hF⟩=>loop_no hF) (fun d118 fr H ⟨x118,g105,g106,g107,e1,e2,hF⟩=>?_) (VS.sm 1393796574908163946345981376463378288711932) ⟨(a3.View,0,0),none,none,none,rfl,rfl,hF⟩)))))
   subst e1 e2
   have hF:=loop_in hF
   refine xq (wh 1 (we (ng (xs ?_))))
   refine ite_elim hF (fun hc13 hF=>?_) (fun hc13 hF=>?_)
   ·refine kT 60 hc13 (xT (xk (ng (xs (xb (xq (bind_elim hF (fun y121 hy121 hF=>uI cPending 68 hy121 len_cPending (uE cPending 0 (t:=46) (v:=.agg (cPending y121)) 68 68 hy121 len_cPending (wr 4 [.cells (cS a4++[rfv false a5 1 1]++[.map 2]),rfb cS a5,mpb (fun a=>AV.agg (cRing_tagged a)) (AV.int .i64) a6,.cells (cSubmit a2),.cells (cReply a3),.cells (cGot (⟨[],0,[],0,[],(Arr.zero 32),[],(Arr.zero 32)⟩ : Got)),.cells (cPending y121)] (we (ng (xs (xq (wh 4 (we (ng ?_)))))))))))))))))
    refine ite_elim hF (fun hc14 hF=>?_) (fun hc14 hF=>?_)
    ·exact kT 66 hc14 (xT (xq (wh 1 (we (ng (xe (then_e (block_o (by decide) (then_e (then_e (block_e (then_n (x_to hJ1 (VS.shX [0,1,2,3,4,5] 1393796574908163946308203453406737657993468 [75] (by kernel_rfl) (by kernel_rfl) (by kernel_rfl) (by exact ⟨low_junk g107,trivial⟩) (tights_at [75] (by kernel_rfl) (by exact ⟨(tight_junk g107),trivial⟩)) (sk rfl (sr low_cS rfl (sn (noref_mpb (fun _=>low_agg (low_cRing_tagged _)) (fun _=>rfl) _) rfl (sk rfl (st (tights_lows (low_cReply _)) rfl (sk rfl shh_nil))))))) ⟨x118.1,8,(some true),(some true),g107,rfl,rfl,hF⟩)))))))))))))
    refine kF 66 hc14 (xF (xk (ng (xq (wh 3 (bind_elim hF (fun y122 hy122 hF=>uOs [0,1,2] [0,1,2] (v:=.tup [.str y122.1,.int .i64 y122.2]) [.cells (cS a4++[rfv false a5 1 1]++[.map 2]),rfb cS a5,mpb (fun a=>AV.agg (cRing_tagged a)) (AV.int .i64) a6] (verify_Step_ev hy122) (tights_cons rfl (tights_cons rfl (tights_cons (tight_agg (tights_lows (low_cPending _))) rfl))) (pl (b':=.cells (cS a4++[rfv false a5 1 1]++[.map 2])) (by kernel_rfl) (sb_cells (by kernel_rfl) (by kernel_rfl) (by kernel_rfl)) (pl (b':=rfb cS a5) (by kernel_rfl) (sb_low (noref_rfb low_cS _)) (pl (b':=mpb (fun a=>AV.agg (cRing_tagged a)) (AV.int .i64) a6) (by kernel_rfl) (sb_low (noref_mpb (fun _=>low_agg (low_cRing_tagged _)) (fun _=>rfl) _)) pl_nil))) rfl (sbs (sb_cells (by kernel_rfl) (by kernel_rfl) (by kernel_rfl)) (sbs (sb_low (noref_rfb low_cS _)) (sbs (sb_low (noref_mpb (fun _=>low_agg (low_cRing_tagged _)) (fun _=>rfl) _)) sbs_nil))) (wh 9 (we (ng (xq (wh 2 (we (ng ?_))))))))))))))
    refine ite_elim hF (fun hc15 hF=>?_) (fun hc15 hF=>?_)
    ·exact kT 75 hc15 (xT (xe (block_o (by decide) (then_e (then_e (block_e (then_n (x_to hJ1 (VS.si [0,1,2,3,4,5] 1393796574908163946345982385269694819703036 (by kernel_rfl) (sk rfl (sr low_cS rfl (sn (noref_mpb (fun _=>low_agg (low_cRing_tagged _)) (fun _=>rfl) _) rfl (sk rfl (st (tights_lows (low_cReply _)) rfl (sk rfl shh_nil))))))) ⟨y122.1,y122.2,(some true),(some false),(some true),rfl,rfl,hF⟩))))))))
    exact kF 75 hc15 (xF (xk (block_n (ng (xr (wh 2 (we (then_n (x_back (VS.si [0,1,2,3,4,5] 1393796574908163946345981376463378288711932 (tights_at [57] (by kernel_rfl) (by exact ⟨(tight_sl low_cPending),trivial⟩)) (sk rfl (sr low_cS rfl (sn (noref_mpb (fun _=>low_agg (low_cRing_tagged _)) (fun _=>rfl) _) rfl (sk rfl (st (tights_lows (low_cReply _)) rfl (sk rfl shh_nil))))))) ⟨(y122.1,y122.2,iAdd .i64 x118.2.2 1),(some true),(some false),(some false),rfl,rfl,hF⟩)))))))))
   exact kF 60 hc13 (xF (xe (then_e (then_e (block_e (then_n (x_to hJ1 (VS.sm 1393796574908163946308129666430442819787004) ⟨x118.1,x118.2.1,(some false),g106,g107,rfl,rfl,hF⟩)))))))
  refine wT 43 (show (!y46)=true by rw [hc3]; rfl) (wh 15 (we (ng (xT (xq (wh 3 (we (ng (xt (then_r ?_))))))))))
  cases hF
  exact fS [0,1,2] (.inl rfl) (tight_tup (tights_cons (tight_agg (tights_lows (low_cGot _))) (tights_cons rfl rfl))) (sk rfl (sr low_cS rfl (sn (noref_mpb (fun _=>low_agg (low_cRing_tagged _)) (fun _=>rfl) _) rfl shh_nil))) ⟨rfl,rfl⟩
 refine kT 22 (show (!y34)=true by rw [hc1]; rfl) (xT (xq (wh 3 (we (ng (xt (block_r (then_r ?_))))))))
 cases hF
 exact fS [0,1,2] (.inl rfl) (tight_tup (tights_cons (tight_agg (tights_lows (low_cGot _))) (tights_cons rfl rfl))) (sk rfl (sr low_cS rfl (sn (noref_mpb (fun _=>low_agg (low_cRing_tagged _)) (fun _=>rfl) _) rfl shh_nil))) ⟨rfl,rfl⟩
def r10_within_J1 (p124 : Bool) : Option Bool :=
  some p124
def r10_within (a0 : Int) (a1 : Int) (a2 : Int) : Option Bool :=
  if iGe a0 a1=true then r10_within_J1 (iLe a0 a2) else r10_within_J1 false
theorem r10_within_ev {a0 : Int} {a1 : Int} {a2 : Int} {r : Bool} (hF : r10_within a0 a1 a2=some r) : EvCall Tryz.prog T G0 104 [.int .i64 a0,.int .i64 a1,.int .i64 a2] [] (fun v H'=>v=.bool r∧H'=[]):=by
 refine xc Tryz.func104 ?_
 refine xq (wh 1 (we (ng ?_)))
 refine xj (fun fr H=>∃ (p124 : Bool) (g125 : Option Bool) (g126 : Option Bool) (g127 : Option Bool),fr=[.any,.any,.any,.any,.any,.any,.bool p124,.any,.any,.bool (iGe a0 a1),junkB g125,.any,.any,junkB g126,junkB g127]∧H=[]∧r10_within_J1 p124=some r) (fun fr H ⟨p124,g125,g126,g127,e1,e2,hF⟩=>?_) (fun hJ1=>?_)
 ·subst e1 e2
  refine xt ?_
  cases hF
  exact fE [] (.inl rfl) rfl ⟨rfl,rfl⟩
 refine xr (wh 4 ?_)
 refine ite_elim hF (fun hc1 hF=>?_) (fun hc1 hF=>?_)
 ·exact wT 10 hc1 (wh 9 (we (then_n (x_to hJ1 (VS.sm 32191) ⟨iLe a0 a2,(some true),(some (iLe a0 a2)),(some (iLe a0 a2)),rfl,rfl,hF⟩))))
 exact wF 10 hc1 (wh 9 (we (then_n (x_to hJ1 (VS.sm 32191) ⟨false,(some false),none,(some false),rfl,rfl,hF⟩))))
def r10_bare (a0 : Int) (a1 : Submit) (a2 : Reply) (a3 : List UInt8) (a4 : Arr 32) (a5 : Arr 32) (a6 : Blob) (a7 : Sl Int) : Option Msg :=
  some (⟨1,a0,(⟨0,0,0,[],(Arr.zero 32),(Arr.zero 32)⟩ : Submit),a2,a3,0,a4,a5,a6,a7⟩ : Msg)
theorem r10_bare_ev {a0 : Int} {a1 : Submit} {a2 : Reply} {a3 : List UInt8} {a4 : Arr 32} {a5 : Arr 32} {a6 : Blob} {a7 : Sl Int} {r : Msg} (hF : r10_bare a0 a1 a2 a3 a4 a5 a6 a7=some r) : EvCall Tryz.prog T G0 105 [.agg ((cI .i64) 1++(cI .i64) a0++cSubmit a1++cReply a2++cS a3++(cI .i64) 0++(cA .u8) a4++(cA .u8) a5++cBlob a6++(cL (cI .i64)) a7)] [] (fun v H'=>v=.agg (cMsg r)∧H'=[]):=by
 refine xc Tryz.func105 ?_
 refine xq (wr 2 [.cells (((cI .i64) 1++(cI .i64) a0++cSubmit a1++cReply a2++cS a3++(cI .i64) 0++(cA .u8) a4++(cA .u8) a5++cBlob a6++(cL (cI .i64)) a7)),.cells (cMsg (⟨0,0,⟨0,0,0,[],(Arr.zero 32),(Arr.zero 32)⟩,⟨0,0,[],(Arr.zero 32),⟨true,true,[]⟩,0,[],(Arr.zero 32),[],(Arr.zero 32)⟩,[],0,(Arr.zero 32),(Arr.zero 32),⟨0,0,[],(Arr.zero 32)⟩,⟨true,true,[]⟩⟩ : Msg))] (we (ng (xs (xq (wh 2 (we (ng (xb (xq (wh 2 (we (ng (xT (xr (wr 3 [.cells ((cI .i64) 1++(cI .i64) a0++cSubmit (⟨0,0,0,[],(Arr.zero 32),(Arr.zero 32)⟩ : Submit)++cReply a2++cS a3++(cI .i64) 0++(cA .u8) a4++(cA .u8) a5++cBlob a6++(cL (cI .i64)) a7),.cells (cMsg (⟨0,0,⟨0,0,0,[],(Arr.zero 32),(Arr.zero 32)⟩,⟨0,0,[],(Arr.zero 32),⟨true,true,[]⟩,0,[],(Arr.zero 32),[],(Arr.zero 32)⟩,[],0,(Arr.zero 32),(Arr.zero 32),⟨0,0,[],(Arr.zero 32)⟩,⟨true,true,[]⟩⟩ : Msg))] (we (block_n (ng (xq (wr 2 [.cells ((cI .i64) 1++(cI .i64) a0++cSubmit (⟨0,0,0,[],(Arr.zero 32),(Arr.zero 32)⟩ : Submit)++cReply a2++cS a3++(cI .i64) 0++(cA .u8) a4++(cA .u8) a5++cBlob a6++(cL (cI .i64)) a7),.cells (cMsg (⟨1,a0,(⟨0,0,0,[],(Arr.zero 32),(Arr.zero 32)⟩ : Submit),a2,a3,0,a4,a5,a6,a7⟩ : Msg))] (we (ng (xt ?_))))))))))))))))))))))))
 cases hF
 exact fE [] (.inl rfl) (low_agg (low_cMsg _)) ⟨rfl,rfl⟩
def r10_SameReply_J2 (p163 : Bool) : Option Bool :=
  some p163
def r10_SameReply_J1 (a0 : Reply) (a1 : Reply) : Option Bool :=
  if (a0.ValueNumber==a1.ValueNumber)=true then if (a0.Value==a1.Value)=true then if eqA a0.Data a1.Data=true then if (a0.Seen==a1.Seen)=true then r10_SameReply_J2 (eqA a0.SeenTag a1.SeenTag) else r10_SameReply_J2 false else r10_SameReply_J2 false else r10_SameReply_J2 false else r10_SameReply_J2 false
def r10_SameReply_B198 (a0 : Reply) (a1 : Reply) (k198 : Int→Option Bool) (x198 : Int) : Option Bool :=
  if iLt x198 (a0.Pending.l.length : Int)=true then (idxL a0.Pending.l x198).bind fun y205=>(idxL a1.Pending.l x198).bind fun y206=>if eqPending y205 y206=true then k198 (iAdd .i64 x198 1) else some false else r10_SameReply_J1 a0 a1
def r10_SameReply (a0 : Reply) (a1 : Reply) : Option Bool :=
  if (a0.Number != a1.Number)=true then some false else if (a0.Last != a1.Last)=true then some false else if (a0.View==a1.View)=true then if eqA a0.Commit a1.Commit=true then if ((a0.Pending.l.length : Int) != (a1.Pending.l.length : Int))=true then some false else loopN (r10_SameReply_B198 a0 a1) FUEL 0 else some false else some false
theorem r10_SameReply_ev {a0 : Reply} {a1 : Reply} {r : Bool} (hF : r10_SameReply a0 a1=some r) : EvCall Tryz.prog T G0 95 [.agg (cReply a0),.agg (cReply a1)] [] (fun v H'=>v=.bool r∧H'=[]):=by
 refine xc Tryz.func95 ?_
 refine xq (wr 3 [.cells (cReply a0),.cells (cReply a1)] (we (ng (xs (xq (wh 6 ?_))))))
 refine ite_elim hF (fun hc1 hF=>?_) (fun hc1 hF=>?_)
 ·refine wT 11 hc1 (wh 35 (we (ng (xT (xq (wh 1 (we (ng (xt (then_r ?_))))))))))
  cases hF
  exact fE [] (.inl rfl) rfl ⟨rfl,rfl⟩
 refine wF 11 hc1 (wh 13 ?_)
 refine ite_elim hF (fun hc2 hF=>?_) (fun hc2 hF=>?_)
 ·refine wT 18 hc2 (wh 35 (we (ng (xT (xq (wh 1 (we (ng (xt (then_r ?_))))))))))
  cases hF
  exact fE [] (.inl rfl) rfl ⟨rfl,rfl⟩
 refine wF 18 hc2 (wh 20 ?_)
 refine ite_elim hF (fun hc3 hF=>?_) (fun hc3 hF=>?_)
 ·refine wF 25 (show (!(a0.View==a1.View))=false by rw [hc3]; rfl) (wh 24 (w_neq (b:=eqA a0.Commit a1.Commit) (by kernel_rfl) (wh 27 ?_)))
  refine ite_elim hF (fun hc4 hF=>?_) (fun hc4 hF=>?_)
  ·refine wF 32 (show (!(eqA a0.Commit a1.Commit))=false by rw [hc4]; rfl) (wh 35 (we (ng ?_)))
   refine ite_elim hF (fun hc5 hF=>?_) (fun hc5 hF=>?_)
   ·refine kT 40 hc5 (xT (xq (wh 1 (we (ng (xt (then_r ?_)))))))
    cases hF
    exact fE [] (.inl rfl) rfl ⟨rfl,rfl⟩
   refine kF 40 hc5 (xF (xk (ng ?_)))
   refine xj (fun fr H=>∃ (g162 : Option Bool),fr=[.any,.any,.ptr 0 0,.ptr 1 0,.bool false,.any,.any,.any,.any,.any,.bool (a0.Number != a1.Number),.bool false,.any,.any,.any,.any,.bool (a0.Last != a1.Last),.bool (a0.Last != a1.Last),.bool false,.any,.any,.any,.any,.bool (!(a0.View==a1.View)),.bool (!(a0.View==a1.View)),.bool false,.any,.any,.any,.any,.bool (!(eqA a0.Commit a1.Commit)),.bool (!(eqA a0.Commit a1.Commit)),.bool false,.any,.any,.any,.any,.any,.any,.bool ((a0.Pending.l.length : Int) != (a1.Pending.l.length : Int)),.bool false,.any,.any,.any,.any,.bool false,.any,.any,.any,.any,.any,.any,.any,.any,.any,.any,.any,.any,junkB g162,.any,.any,.any,.any,.any,.any,.any,.any,.any,.any,.any,.any,.any,.any,.any,.any,.any,.any,.any,.any,.any,.any,.any,.any,.any,.any,.any,.any,.any,.any,.any,.any,.any]∧H=[.cells (cReply a0),.cells (cReply a1)]∧r10_SameReply_J1 a0 a1=some r) (fun fr H ⟨g162,e1,e2,hF⟩=>?_) (fun hJ1=>?_)
   ·subst e1 e2
    refine xj (fun fr H=>∃ (p163 : Bool) (g164 : Option Bool) (g165 : Option Bool) (g166 : Option Bool) (g167 : Option Bool) (g168 : Option Bool) (g169 : Option Bool) (g170 : Option Bool) (g171 : Option Bool) (g172 : Option Bool) (g173 : Option Bool) (g174 : Option Bool) (g175 : Option Bool),fr=[.any,.any,.any,.any,.bool p163,.any,.any,.any,.any,.any,.bool (a0.Number != a1.Number),.bool false,.any,.any,.any,.any,.bool (a0.Last != a1.Last),.bool (a0.Last != a1.Last),.bool false,.any,.any,.any,.any,.bool (!(a0.View==a1.View)),.bool (!(a0.View==a1.View)),.bool false,.any,.any,.any,.any,.bool (!(eqA a0.Commit a1.Commit)),.bool (!(eqA a0.Commit a1.Commit)),.bool false,.any,.any,.any,.any,.any,.any,.bool ((a0.Pending.l.length : Int) != (a1.Pending.l.length : Int)),.bool false,.any,.any,.any,.any,.bool false,.any,.any,.any,.any,.any,.any,.any,.any,.any,.any,.any,.any,junkB g162,.any,.any,.any,.any,.bool (a0.ValueNumber==a1.ValueNumber),junkB g164,.any,.any,.any,.any,junkB g165,junkB g166,junkB g167,.any,.any,.any,.any,junkB g168,junkB g169,junkB g170,.any,.any,.any,.any,junkB g171,junkB g172,junkB g173,.any,.any,.any,.any,junkB g174,junkB g175]∧H=[]∧r10_SameReply_J2 p163=some r) (fun fr H ⟨p163,g164,g165,g166,g167,g168,g169,g170,g171,g172,g173,g174,g175,e1,e2,hF⟩=>?_) (fun hJ2=>?_)
    ·subst e1 e2
     refine xt ?_
     cases hF
     exact fE [] (.inl rfl) rfl ⟨rfl,rfl⟩
    refine xr (wh 6 ?_)
    refine ite_elim hF (fun hc6 hF=>?_) (fun hc6 hF=>?_)
    ·refine wT 64 hc6 (wh 13 ?_)
     refine ite_elim hF (fun hc7 hF=>?_) (fun hc7 hF=>?_)
     ·refine wT 71 hc7 (wh 17 (w_eql (b:=eqA a0.Data a1.Data) (by kernel_rfl) (wh 20 ?_)))
      refine ite_elim hF (fun hc8 hF=>?_) (fun hc8 hF=>?_)
      ·refine wT 78 hc8 (wh 27 ?_)
       refine ite_elim hF (fun hc9 hF=>?_) (fun hc9 hF=>?_)
       ·exact wT 85 hc9 (wh 31 (w_eql (b:=eqA a0.SeenTag a1.SeenTag) (by kernel_rfl) (wh 34 (we (then_n (x_to hJ2 (VS.shX [] 4951760147629881845375103983 [58] (by kernel_rfl) (by kernel_rfl) (by kernel_rfl) (by exact ⟨low_junk g162,trivial⟩) (tights_at [58] (by kernel_rfl) (by exact ⟨(tight_junk g162),trivial⟩)) shh_nil) ⟨eqA a0.SeenTag a1.SeenTag,(some true),(some (a0.Value==a1.Value)),(some (a0.Value==a1.Value)),(some true),(some (eqA a0.Data a1.Data)),(some (eqA a0.Data a1.Data)),(some true),(some (a0.Seen==a1.Seen)),(some (a0.Seen==a1.Seen)),(some true),(some (eqA a0.SeenTag a1.SeenTag)),(some (eqA a0.SeenTag a1.SeenTag)),rfl,rfl,hF⟩))))))
       exact wF 85 hc9 (wh 34 (we (then_n (x_to hJ2 (VS.shX [] 4951760147629881845375103983 [58] (by kernel_rfl) (by kernel_rfl) (by kernel_rfl) (by exact ⟨low_junk g162,trivial⟩) (tights_at [58] (by kernel_rfl) (by exact ⟨(tight_junk g162),trivial⟩)) shh_nil) ⟨false,(some true),(some (a0.Value==a1.Value)),(some (a0.Value==a1.Value)),(some true),(some (eqA a0.Data a1.Data)),(some (eqA a0.Data a1.Data)),(some true),(some (a0.Seen==a1.Seen)),(some (a0.Seen==a1.Seen)),(some false),none,(some false),rfl,rfl,hF⟩))))
      exact wF 78 hc8 (wh 34 (we (then_n (x_to hJ2 (VS.shX [] 4951760147629881845375103983 [58] (by kernel_rfl) (by kernel_rfl) (by kernel_rfl) (by exact ⟨low_junk g162,trivial⟩) (tights_at [58] (by kernel_rfl) (by exact ⟨(tight_junk g162),trivial⟩)) shh_nil) ⟨false,(some true),(some (a0.Value==a1.Value)),(some (a0.Value==a1.Value)),(some true),(some (eqA a0.Data a1.Data)),(some (eqA a0.Data a1.Data)),(some false),none,(some false),(some false),none,(some false),rfl,rfl,hF⟩))))
     exact wF 71 hc7 (wh 34 (we (then_n (x_to hJ2 (VS.shX [] 4951760147629881845375103983 [58] (by kernel_rfl) (by kernel_rfl) (by kernel_rfl) (by exact ⟨low_junk g162,trivial⟩) (tights_at [58] (by kernel_rfl) (by exact ⟨(tight_junk g162),trivial⟩)) shh_nil) ⟨false,(some true),(some (a0.Value==a1.Value)),(some (a0.Value==a1.Value)),(some false),none,(some false),(some false),none,(some false),(some false),none,(some false),rfl,rfl,hF⟩))))
    exact wF 64 hc6 (wh 34 (we (then_n (x_to hJ2 (VS.shX [] 4951760147629881845375103983 [58] (by kernel_rfl) (by kernel_rfl) (by kernel_rfl) (by exact ⟨low_junk g162,trivial⟩) (tights_at [58] (by kernel_rfl) (by exact ⟨(tight_junk g162),trivial⟩)) shh_nil) ⟨false,(some false),none,(some false),(some false),none,(some false),(some false),none,(some false),(some false),none,(some false),rfl,rfl,hF⟩))))
   refine xq (wh 1 (we (ng (xb (x_loop (fun d fr H=>∃ (x198 : Int) (g185 : Option Bool) (g186 : Option Bool),fr=[.any,.any,.ptr 0 0,.ptr 1 0,.bool false,.int .i64 x198,.any,.any,.any,.any,.bool (a0.Number != a1.Number),.bool false,.any,.any,.any,.any,.bool (a0.Last != a1.Last),.bool (a0.Last != a1.Last),.bool false,.any,.any,.any,.any,.bool (!(a0.View==a1.View)),.bool (!(a0.View==a1.View)),.bool false,.any,.any,.any,.any,.bool (!(eqA a0.Commit a1.Commit)),.bool (!(eqA a0.Commit a1.Commit)),.bool false,.any,.any,.any,.any,.any,.any,.bool ((a0.Pending.l.length : Int) != (a1.Pending.l.length : Int)),.bool false,.any,.any,.any,.any,junkB g185,.any,.any,.any,.any,.any,.any,.any,.any,.any,.any,.any,.any,junkB g186,.any,.any,.any,.any,.any,.any,.any,.any,.any,.any,.any,.any,.any,.any,.any,.any,.any,.any,.any,.any,.any,.any,.any,.any,.any,.any,.any,.any,.any,.any,.any,.any,.any]∧H=[.cells (cReply a0),.cells (cReply a1)]∧loopN (r10_SameReply_B198 a0 a1) d x198=some r) (by kernel_rfl) (fun fr H ⟨x198,g185,g186,e1,e2,hF⟩=>loop_no hF) (fun d198 fr H ⟨x198,g185,g186,e1,e2,hF⟩=>?_) (VS.sm 4951760157141519442753680323) ⟨0,none,none,rfl,rfl,hF⟩)))))
   subst e1 e2
   have hF:=loop_in hF
   refine xs (xq (wh 5 (we (ng ?_))))
   refine ite_elim hF (fun hc10 hF=>?_) (fun hc10 hF=>?_)
   ·refine kT 45 hc10 (xT (xk (ng (xs (xb (xs (xd 0 call_ends callMono (wp 3 (bind_elim hF (fun y205 hy205 hF=>uI cPending 68 hy205 len_cPending (uE cPending 0 (t:=46) (v:=.agg (cPending y205)) 68 68 hy205 len_cPending (wp 8 (bind_elim hF (fun y206 hy206 hF=>uI cPending 68 hy206 len_cPending (uE cPending 0 (t:=46) (v:=.agg (cPending y206)) 68 68 hy206 len_cPending (w_neq (b:=eqPending y205 y206) (by kernel_rfl) (we (de (ng ?_)))))))))))))))))))
    refine ite_elim hF (fun hc11 hF=>?_) (fun hc11 hF=>?_)
    ·exact kF 58 (show (!(eqPending y205 y206))=false by rw [hc11]; rfl) (xF (xk (block_n (ng (xr (wh 3 (we (then_n (x_back (VS.sm 4951760157141519442753680323) ⟨iAdd .i64 x198 1,(some true),(some false),rfl,rfl,hF⟩)))))))))
    refine kT 58 (show (!(eqPending y205 y206))=true by rw [hc11]; rfl) (xT (xq (wh 1 (we (ng (xt (block_r (then_r (then_r (block_r (then_r ?_)))))))))))
    cases hF
    exact fE [] (.inl rfl) rfl ⟨rfl,rfl⟩
   exact kF 45 hc10 (xF (xe (then_e (then_e (block_e (then_n (x_to hJ1 (VS.sm 4951760156853253882229879779) ⟨g186,rfl,rfl,hF⟩)))))))
  refine wT 32 (show (!(eqA a0.Commit a1.Commit))=true by rw [hc4]; rfl) (wh 35 (we (ng (xT (xq (wh 1 (we (ng (xt (then_r ?_))))))))))
  cases hF
  exact fE [] (.inl rfl) rfl ⟨rfl,rfl⟩
 refine wT 25 (show (!(a0.View==a1.View))=true by rw [hc3]; rfl) (wh 35 (we (ng (xT (xq (wh 1 (we (ng (xt (then_r ?_))))))))))
 cases hF
 exact fE [] (.inl rfl) rfl ⟨rfl,rfl⟩
def r01_Ints_J1  : Option Bool :=
  some true
def r01_Ints_B262 (a0 : Sl Int) (a1 : Sl Int) (k262 : Int→Option Bool) (x262 : Int) : Option Bool :=
  if iLt x262 (a0.l.length : Int)=true then (idxL a0.l x262).bind fun y269=>(idxL a1.l x262).bind fun y270=>if (y269 != y270)=true then some false else k262 (iAdd .i64 x262 1) else r01_Ints_J1
def r01_Ints (a0 : Sl Int) (a1 : Sl Int) : Option Bool :=
  if ((a0.l.length : Int) != (a1.l.length : Int))=true then some false else loopN (r01_Ints_B262 a0 a1) FUEL 0
theorem r01_Ints_ev {a0 : Sl Int} {a1 : Sl Int} {r : Bool} (hF : r01_Ints a0 a1=some r) : EvCall Tryz.prog T G0 96 [sl (cI .i64) a0,sl (cI .i64) a1] [] (fun v H'=>v=.bool r∧H'=[]):=by
 refine xc Tryz.func96 ?_
 refine xq (wh 1 (we (ng (xs (xq (wh 5 (we (ng ?_))))))))
 refine ite_elim hF (fun hc1 hF=>?_) (fun hc1 hF=>?_)
 ·refine kT 10 hc1 (xT (xq (wh 1 (we (ng (xt (then_r ?_)))))))
  cases hF
  exact fE [] (.inl rfl) rfl ⟨rfl,rfl⟩
 refine kF 10 hc1 (xF (xk (ng ?_)))
 refine xj (fun fr H=>∃ (g239 : Option Bool),fr=[.any,.any,.any,.any,.bool false,.any,.any,.any,.any,.any,.bool false,.any,.any,.any,.bool false,.any,.any,.any,.any,.any,.any,.any,.any,.any,.any,junkB g239]∧H=[]∧r01_Ints_J1=some r) (fun fr H ⟨g239,e1,e2,hF⟩=>?_) (fun hJ1=>?_)
 ·subst e1 e2
  refine xq (wh 1 (we (ng (xt ?_))))
  cases hF
  exact fE [] (.inl rfl) rfl ⟨rfl,rfl⟩
 refine xq (wh 1 (we (ng (xb (x_loop (fun d fr H=>∃ (x262 : Int) (g249 : Option Bool) (g250 : Option Bool),fr=[sl (cI .i64) a0,sl (cI .i64) a1,.any,.any,.bool false,.int .i64 x262,.any,.any,.any,.any,.bool false,.any,.any,.any,junkB g249,.any,.any,.any,.any,.any,.any,.any,.any,.any,.any,junkB g250]∧H=[]∧loopN (r01_Ints_B262 a0 a1) d x262=some r) (by kernel_rfl) (fun fr H ⟨x262,g249,g250,e1,e2,hF⟩=>loop_no hF) (fun d262 fr H ⟨x262,g249,g250,e1,e2,hF⟩=>?_) (VS.sm 67107788) ⟨0,none,none,rfl,rfl,hF⟩)))))
 subst e1 e2
 have hF:=loop_in hF
 refine xs (xq (wh 4 (we (ng ?_))))
 refine ite_elim hF (fun hc2 hF=>?_) (fun hc2 hF=>?_)
 ·refine kT 14 hc2 (xT (xk (ng (xs (xb (xs (xd 0 call_ends callMono (wp 2 (bind_elim hF (fun y269 hy269 hF=>uI (cI .i64) 1 hy269 (fun _=>rfl) (uE (cI .i64) 0 (t:=3) (v:=.int .i64 y269) 1 1 hy269 (fun _=>rfl) (wp 6 (bind_elim hF (fun y270 hy270 hF=>uI (cI .i64) 1 hy270 (fun _=>rfl) (uE (cI .i64) 0 (t:=3) (v:=.int .i64 y270) 1 1 hy270 (fun _=>rfl) (wp 9 (we (de (ng ?_)))))))))))))))))))
  refine ite_elim hF (fun hc3 hF=>?_) (fun hc3 hF=>?_)
  ·refine kT 25 hc3 (xT (xq (wh 1 (we (ng (xt (block_r (then_r (then_r (block_r (then_r ?_)))))))))))
   cases hF
   exact fE [] (.inl rfl) rfl ⟨rfl,rfl⟩
  exact kF 25 hc3 (xF (xk (block_n (ng (xr (wh 3 (we (then_n (x_back (VS.sm 67107788) ⟨iAdd .i64 x262 1,(some true),(some false),rfl,rfl,hF⟩)))))))))
 exact kF 14 hc2 (xF (xe (then_e (then_e (block_e (then_n (x_to hJ1 (VS.sm 33537007) ⟨g250,rfl,rfl,hF⟩)))))))
def r10_Same_J1 (p133 : Bool) : Option Bool :=
  some p133
def r10_Same (a0 : Msg) (a1 : Msg) : Option Bool :=
  if (a0.Kind==a1.Kind)=true then if (a0.Client==a1.Client)=true then if eqSubmit a0.Submit a1.Submit=true then (r10_SameReply a0.Reply a1.Reply).bind fun y161=>if y161=true then if (a0.View==a1.View)=true then if (a0.By==a1.By)=true then if eqA a0.Tag a1.Tag=true then if eqA a0.Own a1.Own=true then if eqBlob a0.Blob a1.Blob=true then (r01_Ints a0.Numbers a1.Numbers).bind fun y162=>r10_Same_J1 y162 else r10_Same_J1 false else r10_Same_J1 false else r10_Same_J1 false else r10_Same_J1 false else r10_Same_J1 false else r10_Same_J1 false else r10_Same_J1 false else r10_Same_J1 false else r10_Same_J1 false
theorem r10_Same_ev {a0 : Msg} {a1 : Msg} {r : Bool} (hF : r10_Same a0 a1=some r) : EvCall Tryz.prog T G0 47 [.agg (cMsg a0),.agg (cMsg a1)] [] (fun v H'=>v=.bool r∧H'=[]):=by
 refine xc Tryz.func47 ?_
 refine xq (wr 3 [.cells (cMsg a0),.cells (cMsg a1)] (we (ng ?_)))
 refine xj (fun fr H=>∃ (p133 : Bool) (g134 : Option Bool) (g135 : Option Bool) (g136 : Option Bool) (g137 : Option Bool) (g138 : Option Bool) (g139 : Option Bool) (g140 : Option Bool) (g141 : Option Bool) (g142 : Option Bool) (g143 : Option Bool) (g144 : Option Bool) (g145 : Option Bool) (g146 : Option Bool) (g147 : Option Bool) (g148 : Option Bool) (g149 : Option Bool) (g150 : Option Bool) (g151 : Option Bool) (g152 : Option Bool) (g153 : Option Bool) (g154 : Option Bool) (g155 : Option Bool) (g156 : Option Bool) (g157 : Option Bool) (g158 : Option Bool) (g159 : Option Bool) (g160 : Option Bool),fr=[.any,.any,.any,.any,.bool p133,.any,.any,.any,.any,.bool (a0.Kind==a1.Kind),junkB g134,.any,.any,.any,.any,junkB g135,junkB g136,junkB g137,.any,.any,.any,.any,junkB g138,junkB g139,junkB g140,.any,.any,.any,.any,junkB g141,junkB g142,junkB g143,.any,.any,.any,.any,junkB g144,junkB g145,junkB g146,.any,.any,.any,.any,junkB g147,junkB g148,junkB g149,.any,.any,.any,.any,junkB g150,junkB g151,junkB g152,.any,.any,.any,.any,junkB g153,junkB g154,junkB g155,.any,.any,.any,.any,junkB g156,junkB g157,junkB g158,.any,.any,.any,.any,junkB g159,junkB g160]∧H=[]∧r10_Same_J1 p133=some r) (fun fr H ⟨p133,g134,g135,g136,g137,g138,g139,g140,g141,g142,g143,g144,g145,g146,g147,g148,g149,g150,g151,g152,g153,g154,g155,g156,g157,g158,g159,g160,e1,e2,hF⟩=>?_) (fun hJ1=>?_)
 ·subst e1 e2
  refine xt ?_
  cases hF
  exact fE [] (.inl rfl) rfl ⟨rfl,rfl⟩
 refine xr (wh 6 ?_)
 refine ite_elim hF (fun hc1 hF=>?_) (fun hc1 hF=>?_)
 ·refine wT 10 hc1 (wh 13 ?_)
  refine ite_elim hF (fun hc2 hF=>?_) (fun hc2 hF=>?_)
  ·refine wT 17 hc2 (wh 17 (w_eql (b:=eqSubmit a0.Submit a1.Submit) (by kernel_rfl) (wh 20 ?_)))
   refine ite_elim hF (fun hc3 hF=>?_) (fun hc3 hF=>?_)
   ·refine wT 24 hc3 (wh 24 (bind_elim hF (fun y161 hy161 hF=>uC (r10_SameReply_ev hy161) (lows_cons (low_agg (low_cReply _)) (lows_cons (low_agg (low_cReply _)) rfl)) rfl (wh 27 ?_))))
    refine ite_elim hF (fun hc4 hF=>?_) (fun hc4 hF=>?_)
    ·refine wT 31 hc4 (wh 34 ?_)
     refine ite_elim hF (fun hc5 hF=>?_) (fun hc5 hF=>?_)
     ·refine wT 38 hc5 (wh 41 ?_)
      refine ite_elim hF (fun hc6 hF=>?_) (fun hc6 hF=>?_)
      ·refine wT 45 hc6 (wh 45 (w_eql (b:=eqA a0.Tag a1.Tag) (by kernel_rfl) (wh 48 ?_)))
       refine ite_elim hF (fun hc7 hF=>?_) (fun hc7 hF=>?_)
       ·refine wT 52 hc7 (wh 52 (w_eql (b:=eqA a0.Own a1.Own) (by kernel_rfl) (wh 55 ?_)))
        refine ite_elim hF (fun hc8 hF=>?_) (fun hc8 hF=>?_)
        ·refine wT 59 hc8 (wh 59 (w_eql (b:=eqBlob a0.Blob a1.Blob) (by kernel_rfl) (wh 62 ?_)))
         refine ite_elim hF (fun hc9 hF=>?_) (fun hc9 hF=>?_)
         ·exact wT 66 hc9 (wh 66 (bind_elim hF (fun y162 hy162 hF=>uC (r01_Ints_ev hy162) (lows_cons (low_sl low_cI) (lows_cons (low_sl low_cI) rfl)) rfl (wh 69 (we (then_n (x_to hJ1 (VS.si [] 9444732965739290426863 (by kernel_rfl) shh_nil) ⟨y162,(some true),(some (a0.Client==a1.Client)),(some (a0.Client==a1.Client)),(some true),(some (eqSubmit a0.Submit a1.Submit)),(some (eqSubmit a0.Submit a1.Submit)),(some true),(some y161),(some y161),(some true),(some (a0.View==a1.View)),(some (a0.View==a1.View)),(some true),(some (a0.By==a1.By)),(some (a0.By==a1.By)),(some true),(some (eqA a0.Tag a1.Tag)),(some (eqA a0.Tag a1.Tag)),(some true),(some (eqA a0.Own a1.Own)),(some (eqA a0.Own a1.Own)),(some true),(some (eqBlob a0.Blob a1.Blob)),(some (eqBlob a0.Blob a1.Blob)),(some true),(some y162),(some y162),rfl,rfl,hF⟩)))))))
         exact wF 66 hc9 (wh 69 (we (then_n (x_to hJ1 (VS.si [] 9444732965739290426863 (by kernel_rfl) shh_nil) ⟨false,(some true),(some (a0.Client==a1.Client)),(some (a0.Client==a1.Client)),(some true),(some (eqSubmit a0.Submit a1.Submit)),(some (eqSubmit a0.Submit a1.Submit)),(some true),(some y161),(some y161),(some true),(some (a0.View==a1.View)),(some (a0.View==a1.View)),(some true),(some (a0.By==a1.By)),(some (a0.By==a1.By)),(some true),(some (eqA a0.Tag a1.Tag)),(some (eqA a0.Tag a1.Tag)),(some true),(some (eqA a0.Own a1.Own)),(some (eqA a0.Own a1.Own)),(some true),(some (eqBlob a0.Blob a1.Blob)),(some (eqBlob a0.Blob a1.Blob)),(some false),none,(some false),rfl,rfl,hF⟩))))
        exact wF 59 hc8 (wh 69 (we (then_n (x_to hJ1 (VS.si [] 9444732965739290426863 (by kernel_rfl) shh_nil) ⟨false,(some true),(some (a0.Client==a1.Client)),(some (a0.Client==a1.Client)),(some true),(some (eqSubmit a0.Submit a1.Submit)),(some (eqSubmit a0.Submit a1.Submit)),(some true),(some y161),(some y161),(some true),(some (a0.View==a1.View)),(some (a0.View==a1.View)),(some true),(some (a0.By==a1.By)),(some (a0.By==a1.By)),(some true),(some (eqA a0.Tag a1.Tag)),(some (eqA a0.Tag a1.Tag)),(some true),(some (eqA a0.Own a1.Own)),(some (eqA a0.Own a1.Own)),(some false),none,(some false),(some false),none,(some false),rfl,rfl,hF⟩))))
       exact wF 52 hc7 (wh 69 (we (then_n (x_to hJ1 (VS.si [] 9444732965739290426863 (by kernel_rfl) shh_nil) ⟨false,(some true),(some (a0.Client==a1.Client)),(some (a0.Client==a1.Client)),(some true),(some (eqSubmit a0.Submit a1.Submit)),(some (eqSubmit a0.Submit a1.Submit)),(some true),(some y161),(some y161),(some true),(some (a0.View==a1.View)),(some (a0.View==a1.View)),(some true),(some (a0.By==a1.By)),(some (a0.By==a1.By)),(some true),(some (eqA a0.Tag a1.Tag)),(some (eqA a0.Tag a1.Tag)),(some false),none,(some false),(some false),none,(some false),(some false),none,(some false),rfl,rfl,hF⟩))))
      exact wF 45 hc6 (wh 69 (we (then_n (x_to hJ1 (VS.si [] 9444732965739290426863 (by kernel_rfl) shh_nil) ⟨false,(some true),(some (a0.Client==a1.Client)),(some (a0.Client==a1.Client)),(some true),(some (eqSubmit a0.Submit a1.Submit)),(some (eqSubmit a0.Submit a1.Submit)),(some true),(some y161),(some y161),(some true),(some (a0.View==a1.View)),(some (a0.View==a1.View)),(some true),(some (a0.By==a1.By)),(some (a0.By==a1.By)),(some false),none,(some false),(some false),none,(some false),(some false),none,(some false),(some false),none,(some false),rfl,rfl,hF⟩))))
     exact wF 38 hc5 (wh 69 (we (then_n (x_to hJ1 (VS.si [] 9444732965739290426863 (by kernel_rfl) shh_nil) ⟨false,(some true),(some (a0.Client==a1.Client)),(some (a0.Client==a1.Client)),(some true),(some (eqSubmit a0.Submit a1.Submit)),(some (eqSubmit a0.Submit a1.Submit)),(some true),(some y161),(some y161),(some true),(some (a0.View==a1.View)),(some (a0.View==a1.View)),(some false),none,(some false),(some false),none,(some false),(some false),none,(some false),(some false),none,(some false),(some false),none,(some false),rfl,rfl,hF⟩))))
    exact wF 31 hc4 (wh 69 (we (then_n (x_to hJ1 (VS.si [] 9444732965739290426863 (by kernel_rfl) shh_nil) ⟨false,(some true),(some (a0.Client==a1.Client)),(some (a0.Client==a1.Client)),(some true),(some (eqSubmit a0.Submit a1.Submit)),(some (eqSubmit a0.Submit a1.Submit)),(some true),(some y161),(some y161),(some false),none,(some false),(some false),none,(some false),(some false),none,(some false),(some false),none,(some false),(some false),none,(some false),(some false),none,(some false),rfl,rfl,hF⟩))))
   exact wF 24 hc3 (wh 69 (we (then_n (x_to hJ1 (VS.si [] 9444732965739290426863 (by kernel_rfl) shh_nil) ⟨false,(some true),(some (a0.Client==a1.Client)),(some (a0.Client==a1.Client)),(some true),(some (eqSubmit a0.Submit a1.Submit)),(some (eqSubmit a0.Submit a1.Submit)),(some false),none,(some false),(some false),none,(some false),(some false),none,(some false),(some false),none,(some false),(some false),none,(some false),(some false),none,(some false),(some false),none,(some false),rfl,rfl,hF⟩))))
  exact wF 17 hc2 (wh 69 (we (then_n (x_to hJ1 (VS.si [] 9444732965739290426863 (by kernel_rfl) shh_nil) ⟨false,(some true),(some (a0.Client==a1.Client)),(some (a0.Client==a1.Client)),(some false),none,(some false),(some false),none,(some false),(some false),none,(some false),(some false),none,(some false),(some false),none,(some false),(some false),none,(some false),(some false),none,(some false),(some false),none,(some false),rfl,rfl,hF⟩))))
 exact wF 10 hc1 (wh 69 (we (then_n (x_to hJ1 (VS.si [] 9444732965739290426863 (by kernel_rfl) shh_nil) ⟨false,(some false),none,(some false),(some false),none,(some false),(some false),none,(some false),(some false),none,(some false),(some false),none,(some false),(some false),none,(some false),(some false),none,(some false),(some false),none,(some false),(some false),none,(some false),rfl,rfl,hF⟩))))
def r10_asks_J1 (p195 : Bool) : Option Bool :=
  some p195
def r10_asks (a0 : Int) (a1 : Int) (a2 : Int) : Option Bool :=
  (r10_within a0 1 512).bind fun y203=>if y203=true then (r10_within a1 1 2).bind fun y204=>if y204=true then (r10_within a2 0 7).bind fun y205=>r10_asks_J1 y205 else r10_asks_J1 false else r10_asks_J1 false
theorem r10_asks_ev {a0 : Int} {a1 : Int} {a2 : Int} {r : Bool} (hF : r10_asks a0 a1 a2=some r) : EvCall Tryz.prog T G0 106 [.int .i64 a0,.int .i64 a1,.int .i64 a2] [] (fun v H'=>v=.bool r∧H'=[]):=by
 refine xc Tryz.func106 ?_
 refine xq (wh 1 (we (ng ?_)))
 refine xj (fun fr H=>∃ (p195 : Bool) (g196 : Option Bool) (g197 : Option Bool) (g198 : Option Bool) (g199 : Option Bool) (g200 : Option Bool) (g201 : Option Bool) (g202 : Option Bool),fr=[.any,.any,.any,.any,.any,.any,.bool p195,.any,junkB g196,junkB g197,.any,junkB g198,junkB g199,junkB g200,.any,junkB g201,junkB g202]∧H=[]∧r10_asks_J1 p195=some r) (fun fr H ⟨p195,g196,g197,g198,g199,g200,g201,g202,e1,e2,hF⟩=>?_) (fun hJ1=>?_)
 ·subst e1 e2
  refine xt ?_
  cases hF
  exact fE [] (.inl rfl) rfl ⟨rfl,rfl⟩
 refine xr (wh 1 (bind_elim hF (fun y203 hy203 hF=>uC (r10_within_ev hy203) (lows_cons rfl (lows_cons rfl (lows_cons rfl rfl))) rfl (wh 3 ?_))))
 refine ite_elim hF (fun hc1 hF=>?_) (fun hc1 hF=>?_)
 ·refine wT 9 hc1 (wh 4 (bind_elim hF (fun y204 hy204 hF=>uC (r10_within_ev hy204) (lows_cons rfl (lows_cons rfl (lows_cons rfl rfl))) rfl (wh 7 ?_))))
  refine ite_elim hF (fun hc2 hF=>?_) (fun hc2 hF=>?_)
  ·exact wT 13 hc2 (wh 8 (bind_elim hF (fun y205 hy205 hF=>uC (r10_within_ev hy205) (lows_cons rfl (lows_cons rfl (lows_cons rfl rfl))) rfl (wh 11 (we (then_n (x_to hJ1 (VS.sm 131007) ⟨y205,(some y203),(some true),(some y204),(some y204),(some true),(some y205),(some y205),rfl,rfl,hF⟩)))))))
  exact wF 13 hc2 (wh 11 (we (then_n (x_to hJ1 (VS.sm 131007) ⟨false,(some y203),(some true),(some y204),(some y204),(some false),none,(some false),rfl,rfl,hF⟩))))
 exact wF 9 hc1 (wh 11 (we (then_n (x_to hJ1 (VS.sm 131007) ⟨false,(some y203),(some false),none,(some false),(some false),none,(some false),rfl,rfl,hF⟩))))
def r10_Right_J2 (p164 : Bool) : Option Bool :=
  some p164
def r10_Right (a0 : Int) (a1 : Submit) (a2 : Reply) (a3 : List UInt8) (a4 : Arr 32) (a5 : Arr 32) (a6 : Blob) (a7 : Sl Int) : Option Bool :=
  (r10_within 1 1 11).bind fun y152=>if y152=true then (r10_within a0 0 7).bind fun y153=>if y153=true then (r10_bare a0 a1 a2 a3 a4 a5 a6 a7).bind fun y154=>(r10_Same y154 (⟨1,a0,(⟨0,0,0,[],(Arr.zero 32),(Arr.zero 32)⟩ : Submit),(⟨0,0,[],(Arr.zero 32),⟨true,true,[]⟩,0,[],(Arr.zero 32),[],(Arr.zero 32)⟩ : Reply),[],0,(Arr.zero 32),(Arr.zero 32),(⟨0,0,[],(Arr.zero 32)⟩ : Blob),(⟨true,true,[]⟩ : Sl Int)⟩ : Msg)).bind fun y155=>if y155=true then (r10_asks a1.Number a1.Kind a1.Target).bind fun y169=>if y169=true then r10_Right_J2 (iLe (a1.Value.length : Int) 256) else r10_Right_J2 false else some false else some false else some false
theorem r10_Right_ev {a0 : Int} {a1 : Submit} {a2 : Reply} {a3 : List UInt8} {a4 : Arr 32} {a5 : Arr 32} {a6 : Blob} {a7 : Sl Int} {r : Bool} (hF : r10_Right a0 a1 a2 a3 a4 a5 a6 a7=some r) : EvCall Tryz.prog T G0 55 [.agg ((cI .i64) 1++(cI .i64) a0++cSubmit a1++cReply a2++cS a3++(cI .i64) 0++(cA .u8) a4++(cA .u8) a5++cBlob a6++(cL (cI .i64)) a7)] [] (fun v H'=>v=.bool r∧H'=[]):=by
 refine xc Tryz.func55 ?_
 refine xq (wr 2 [.cells (((cI .i64) 1++(cI .i64) a0++cSubmit a1++cReply a2++cS a3++(cI .i64) 0++(cA .u8) a4++(cA .u8) a5++cBlob a6++(cL (cI .i64)) a7))] (we (ng (xs (xs (xd 0 call_ends callMono (wp 2 (bind_elim hF (fun y152 hy152 hF=>uC (r10_within_ev hy152) (lows_cons rfl (lows_cons rfl (lows_cons rfl rfl))) rfl (wp 5 ?_))))))))))
 refine ite_elim hF (fun hc1 hF=>?_) (fun hc1 hF=>?_)
 ·refine wF 7 (show (!y152)=false by rw [hc1]; rfl) (wp 7 (bind_elim hF (fun y153 hy153 hF=>uC (r10_within_ev hy153) (lows_cons rfl (lows_cons rfl (lows_cons rfl rfl))) rfl (wp 11 ?_))))
  refine ite_elim hF (fun hc2 hF=>?_) (fun hc2 hF=>?_)
  ·refine wF 13 (show (!y153)=false by rw [hc2]; rfl) (wp 12 (bind_elim hF (fun y154 hy154 hF=>uC (r10_bare_ev hy154) (lows_cons (low_agg (lows_app (lows_app (lows_app (lows_app (lows_app (lows_app (lows_app (lows_app (lows_app (low_cI _) (low_cI _)) (low_cSubmit _)) (low_cReply _)) (low_cS _)) (low_cI _)) (low_cA _)) (low_cA _)) (low_cBlob _)) ((low_cL low_cI) _))) rfl) (low_agg (low_cMsg _)) (wp 18 (bind_elim hF (fun y155 hy155 hF=>uC (r10_Same_ev hy155) (lows_cons (low_agg (low_cMsg _)) (lows_cons (low_agg (low_cMsg _)) rfl)) rfl (wp 21 (we (de (ng ?_))))))))))
   refine ite_elim hF (fun hc3 hF=>?_) (fun hc3 hF=>?_)
   ·refine kF 23 (show (!y155)=false by rw [hc3]; rfl) (xF (xk (ng (xs (xq (wh 2 (we (ng (xb (xq (wh 2 (we (ng (xT ?_))))))))))))))
    refine xj (fun fr H=>∃ (p164 : Bool) (g165 : Option Bool) (g166 : Option Bool) (g167 : Option Bool) (g168 : Option Bool),fr=[.any,.any,.bool p164,.any,.any,.bool y152,.bool (!y152),.bool false,.any,.any,.bool y153,.bool (!y153),.bool (!y153),.bool false,.any,.any,.any,.any,.any,.any,.any,.bool y155,.bool (!y155),.bool false,.any,.any,.bool true,.bool true,.any,.any,.any,.any,.any,.any,.any,.any,.any,junkB g165,junkB g166,.any,.any,.any,.any,junkB g167,junkB g168,.any,.any,.any,.any,.any,.any,.any,.any,.any,.any,.any,.any,.any,.any,.any,.any,.any,.any,.any,.any,.any,.any,.any,.any,.any,.any,.any,.any,.any,.any,.any,.any,.any,.any,.any,.any,.any,.any,.any,.any,.any,.any,.any,.any,.any,.any,.any,.any,.any,.any,.any,.any,.any,.any,.any,.any,.any,.any,.any,.any,.any,.any,.any,.any,.any,.any,.any]∧H=[]∧r10_Right_J2 p164=some r) (fun fr H ⟨p164,g165,g166,g167,g168,e1,e2,hF⟩=>?_) (fun hJ2=>?_)
    ·subst e1 e2
     refine xt (block_r (then_r ?_))
     cases hF
     exact fE [] (.inl rfl) rfl ⟨rfl,rfl⟩
    refine xr (wh 9 (bind_elim hF (fun y169 hy169 hF=>uC (r10_asks_ev hy169) (lows_cons rfl (lows_cons rfl (lows_cons rfl rfl))) rfl (wh 11 ?_))))
    refine ite_elim hF (fun hc4 hF=>?_) (fun hc4 hF=>?_)
    ·exact wT 38 hc4 (wh 18 (we (then_n (x_to hJ2 (VS.si [] 5192296858534827628530496113197851 (by kernel_rfl) shh_nil) ⟨iLe (a1.Value.length : Int) 256,(some y169),(some true),(some (iLe (a1.Value.length : Int) 256)),(some (iLe (a1.Value.length : Int) 256)),rfl,rfl,hF⟩))))
    exact wF 38 hc4 (wh 18 (we (then_n (x_to hJ2 (VS.si [] 5192296858534827628530496113197851 (by kernel_rfl) shh_nil) ⟨false,(some y169),(some false),none,(some false),rfl,rfl,hF⟩))))
   refine kT 23 (show (!y155)=true by rw [hc3]; rfl) (xT (xq (wh 1 (we (ng (xt (then_r ?_)))))))
   cases hF
   exact fE [] (.inl rfl) rfl ⟨rfl,rfl⟩
  refine wT 13 (show (!y153)=true by rw [hc2]; rfl) (wp 21 (we (de (ng (xT (xq (wh 1 (we (ng (xt (then_r ?_)))))))))))
  cases hF
  exact fE [] (.inl rfl) rfl ⟨rfl,rfl⟩
 refine wT 7 (show (!y152)=true by rw [hc1]; rfl) (wp 21 (we (de (ng (xT (xq (wh 1 (we (ng (xt (then_r ?_)))))))))))
 cases hF
 exact fE [] (.inl rfl) rfl ⟨rfl,rfl⟩
def r10_bare_2 (a0 : Submit) (a1 : Reply) (a2 : List UInt8) (a3 : Arr 32) (a4 : Arr 32) (a5 : Blob) (a6 : Sl Int) : Option Msg :=
  some (⟨2,0,a0,(⟨0,0,[],(Arr.zero 32),(⟨true,true,[]⟩ : Sl Pending),0,[],(Arr.zero 32),[],(Arr.zero 32)⟩ : Reply),a2,0,a3,a4,a5,a6⟩ : Msg)
theorem r10_bare_2_ev {a0 : Submit} {a1 : Reply} {a2 : List UInt8} {a3 : Arr 32} {a4 : Arr 32} {a5 : Blob} {a6 : Sl Int} {r : Msg} (hF : r10_bare_2 a0 a1 a2 a3 a4 a5 a6=some r) : EvCall Tryz.prog T G0 105 [.agg ((cI .i64) 2++(cI .i64) 0++cSubmit a0++cReply a1++cS a2++(cI .i64) 0++(cA .u8) a3++(cA .u8) a4++cBlob a5++(cL (cI .i64)) a6)] [] (fun v H'=>v=.agg (cMsg r)∧H'=[]):=by
 refine xc Tryz.func105 ?_
 refine xq (wr 2 [.cells (((cI .i64) 2++(cI .i64) 0++cSubmit a0++cReply a1++cS a2++(cI .i64) 0++(cA .u8) a3++(cA .u8) a4++cBlob a5++(cL (cI .i64)) a6)),.cells (cMsg (⟨0,0,⟨0,0,0,[],(Arr.zero 32),(Arr.zero 32)⟩,⟨0,0,[],(Arr.zero 32),⟨true,true,[]⟩,0,[],(Arr.zero 32),[],(Arr.zero 32)⟩,[],0,(Arr.zero 32),(Arr.zero 32),⟨0,0,[],(Arr.zero 32)⟩,⟨true,true,[]⟩⟩ : Msg))] (we (ng (xs (xq (wh 2 (we (ng (xb (xq (wh 2 (we (ng (xF (xq (wh 2 (we (ng (xT (xr (wr 3 [.cells ((cI .i64) 2++(cI .i64) 0++cSubmit a0++cReply (⟨0,0,[],(Arr.zero 32),(⟨true,true,[]⟩ : Sl Pending),0,[],(Arr.zero 32),[],(Arr.zero 32)⟩ : Reply)++cS a2++(cI .i64) 0++(cA .u8) a3++(cA .u8) a4++cBlob a5++(cL (cI .i64)) a6),.cells (cMsg (⟨0,0,⟨0,0,0,[],(Arr.zero 32),(Arr.zero 32)⟩,⟨0,0,[],(Arr.zero 32),⟨true,true,[]⟩,0,[],(Arr.zero 32),[],(Arr.zero 32)⟩,[],0,(Arr.zero 32),(Arr.zero 32),⟨0,0,[],(Arr.zero 32)⟩,⟨true,true,[]⟩⟩ : Msg))] (we (block_n (ng (xq (wr 2 [.cells ((cI .i64) 2++(cI .i64) 0++cSubmit a0++cReply (⟨0,0,[],(Arr.zero 32),(⟨true,true,[]⟩ : Sl Pending),0,[],(Arr.zero 32),[],(Arr.zero 32)⟩ : Reply)++cS a2++(cI .i64) 0++(cA .u8) a3++(cA .u8) a4++cBlob a5++(cL (cI .i64)) a6),.cells (cMsg (⟨2,0,a0,(⟨0,0,[],(Arr.zero 32),(⟨true,true,[]⟩ : Sl Pending),0,[],(Arr.zero 32),[],(Arr.zero 32)⟩ : Reply),a2,0,a3,a4,a5,a6⟩ : Msg))] (we (ng (xt ?_)))))))))))))))))))))))))))))
 cases hF
 exact fE [] (.inl rfl) (low_agg (low_cMsg _)) ⟨rfl,rfl⟩
def r09_Right_J1  : Option Bool :=
  some true
def r09_Right_B288 (a0 : List UInt8) (a1 : Int) (k288 : Int→Option Bool) (x288 : Int) : Option Bool :=
  if iLt x288 (a0.length : Int)=true then (idxB a0 x288).bind fun y290=>if iGt (IntKind.wrap .i64 y290) (iSub .i64 a1 1)=true then some false else k288 (iAdd .i64 x288 1) else r09_Right_J1
def r09_Right (a0 : List UInt8) (a1 : Int) : Option Bool :=
  if iLt a1 1=true then some false else if iGt a1 256=true then some false else if iGt (a0.length : Int) 512=true then some false else loopN (r09_Right_B288 a0 a1) FUEL 0
theorem r09_Right_ev {a0 : List UInt8} {a1 : Int} {r : Bool} (hF : r09_Right a0 a1=some r) : EvCall Tryz.prog T G0 57 [.str a0,.int .i64 a1] [] (fun v H'=>v=.bool r∧H'=[]):=by
 refine xc Tryz.func57 ?_
 refine xq (wh 1 (we (ng (xs (xq (wh 3 ?_))))))
 refine ite_elim hF (fun hc1 hF=>?_) (fun hc1 hF=>?_)
 ·refine wT 8 hc1 (wh 11 (we (ng (xT (xq (wh 1 (we (ng (xt (then_r ?_))))))))))
  cases hF
  exact fE [] (.inl rfl) rfl ⟨rfl,rfl⟩
 refine wF 8 hc1 (wh 7 ?_)
 refine ite_elim hF (fun hc2 hF=>?_) (fun hc2 hF=>?_)
 ·refine wT 12 hc2 (wh 11 (we (ng (xT (xq (wh 1 (we (ng (xt (then_r ?_))))))))))
  cases hF
  exact fE [] (.inl rfl) rfl ⟨rfl,rfl⟩
 refine wF 12 hc2 (wh 11 (we (ng ?_)))
 refine ite_elim hF (fun hc3 hF=>?_) (fun hc3 hF=>?_)
 ·refine kT 16 hc3 (xT (xq (wh 1 (we (ng (xt (then_r ?_)))))))
  cases hF
  exact fE [] (.inl rfl) rfl ⟨rfl,rfl⟩
 refine kF 16 hc3 (xF (xk (ng ?_)))
 refine xj (fun fr H=>∃ (g277 : Option Bool),fr=[.any,.any,.any,.any,.bool false,.any,.any,.bool (iLt a1 1),.bool false,.any,.bool (iGt a1 256),.bool (iGt a1 256),.bool false,.any,.any,.bool (iGt (a0.length : Int) 512),.bool false,.any,.any,.any,.bool false,.any,.any,.any,.any,.any,.any,.any,.any,junkB g277]∧H=[]∧r09_Right_J1=some r) (fun fr H ⟨g277,e1,e2,hF⟩=>?_) (fun hJ1=>?_)
 ·subst e1 e2
  refine xq (wh 1 (we (ng (xt ?_))))
  cases hF
  exact fE [] (.inl rfl) rfl ⟨rfl,rfl⟩
 refine xq (wh 1 (we (ng (xb (x_loop (fun d fr H=>∃ (x288 : Int) (g281 : Option Bool) (g282 : Option Bool),fr=[.str a0,.int .i64 a1,.any,.any,.bool false,.int .i64 x288,.any,.bool (iLt a1 1),.bool false,.any,.bool (iGt a1 256),.bool (iGt a1 256),.bool false,.any,.any,.bool (iGt (a0.length : Int) 512),.bool false,.any,.any,.any,junkB g281,.any,.any,.any,.any,.any,.any,.any,.any,junkB g282]∧H=[]∧loopN (r09_Right_B288 a0 a1) d x288=some r) (by kernel_rfl) (fun fr H ⟨x288,g281,g282,e1,e2,hF⟩=>loop_no hF) (fun d288 fr H ⟨x288,g281,g282,e1,e2,hF⟩=>?_) (VS.sm 1073635916) ⟨0,none,none,rfl,rfl,hF⟩)))))
 subst e1 e2
 have hF:=loop_in hF
 refine xs (xq (wh 4 (we (ng ?_))))
 refine ite_elim hF (fun hc4 hF=>?_) (fun hc4 hF=>?_)
 ·refine kT 20 hc4 (xT (xk (ng (xs (xb (xq (wh 2 (bind_elim hF (fun y290 hy290 hF=>w_idx (by kernel_rfl) hy290 (wh 7 (we (ng ?_))))))))))))
  refine ite_elim hF (fun hc5 hF=>?_) (fun hc5 hF=>?_)
  ·refine kT 29 hc5 (xT (xq (wh 1 (we (ng (xt (block_r (then_r (then_r (block_r (then_r ?_)))))))))))
   cases hF
   exact fE [] (.inl rfl) rfl ⟨rfl,rfl⟩
  exact kF 29 hc5 (xF (xk (block_n (ng (xr (wh 3 (we (then_n (x_back (VS.sm 1073635916) ⟨iAdd .i64 x288 1,(some true),(some false),rfl,rfl,hF⟩)))))))))
 exact kF 20 hc4 (xF (xe (then_e (then_e (block_e (then_n (x_to hJ1 (VS.sm 535716463) ⟨g282,rfl,rfl,hF⟩)))))))
def r10_reply_J3 (p267 : Bool) : Option Bool :=
  some p267
def r10_reply_J2 (a0 : Reply) : Option Bool :=
  (r10_within a0.Number 1 512).bind fun y287=>if y287=true then (r10_within a0.Last (-1) 7).bind fun y288=>if y288=true then (r09_Right a0.View 8).bind fun y289=>if y289=true then (r09_Right a0.Seen 8).bind fun y290=>if y290=true then if iLe (a0.Pending.l.length : Int) 8=true then (r10_within a0.ValueNumber 0 512).bind fun y291=>if y291=true then r10_reply_J3 (iLe (a0.Value.length : Int) 256) else r10_reply_J3 false else r10_reply_J3 false else r10_reply_J3 false else r10_reply_J3 false else r10_reply_J3 false else r10_reply_J3 false
def r10_reply_J1 (a0 : Reply) : Option Bool :=
  if (a0.View==[])=true then if (a0.Last != (-1))=true then some false else r10_reply_J2 a0 else if (a0.Last==(-1))=true then some false else r10_reply_J2 a0
def r10_reply_B328 (a0 : Reply) (k328 : Int→Option Bool) (x328 : Int) : Option Bool :=
  if iLt x328 (a0.Pending.l.length : Int)=true then (idxL a0.Pending.l x328).bind fun y334=>(r10_within y334.Client 0 7).bind fun y337=>if y337=true then (r10_asks y334.Number y334.Kind y334.Target).bind fun y338=>if y338=true then k328 (iAdd .i64 x328 1) else some false else some false else r10_reply_J1 a0
def r10_reply (a0 : Reply) : Option Bool :=
  loopN (r10_reply_B328 a0) FUEL 0
theorem r10_reply_ev {a0 : Reply} {r : Bool} (hF : r10_reply a0=some r) : EvCall Tryz.prog T G0 107 [.agg (cReply a0)] [] (fun v H'=>v=.bool r∧H'=[]):=by
 refine xc Tryz.func107 ?_
 refine xq (wr 2 [.cells (cReply a0)] (we (ng ?_)))
 refine xj (fun fr H=>∃ (g250 : Option Bool) (g251 : Option Bool) (g252 : Option Bool) (g253 : Option Bool) (g254 : Option Bool) (g255 : Option Bool),fr=[.any,.ptr 0 0,.bool false,.any,.any,.any,.any,.any,.any,.bool false,.any,.any,.any,.any,.any,.any,.any,.any,.any,junkB g250,junkB g251,junkB g252,.any,.any,.any,.any,.any,.any,junkB g253,junkB g254,junkB g255,.any,.any,.any,.any,.any,.any,.any,.any,.any,.any,.any,.any,.any,.any,.any,.any,.any,.any,.any,.any,.any,.any,.any,.any,.any,.any,.any,.any,.any,.any,.any,.any,.any,.any,.any,.any,.any,.any,.any,.any,.any,.any,.any,.any,.any,.any,.any,.any,.any,.any,.any,.any,.any]∧H=[.cells (cReply a0)]∧r10_reply_J1 a0=some r) (fun fr H ⟨g250,g251,g252,g253,g254,g255,e1,e2,hF⟩=>?_) (fun hJ1=>?_)
 ·subst e1 e2
  refine xj (fun fr H=>∃ (g256 : Option Bool) (g257 : Option Bool) (g258 : Option Bool) (g259 : Option Bool) (g260 : Option Bool) (g261 : Option Bool),fr=[.any,.ptr 0 0,.bool false,.any,.any,.any,.any,.any,.any,.bool false,.any,.any,.any,.any,.any,.any,.any,.any,.any,junkB g250,junkB g251,junkB g252,.any,.any,.any,.any,.any,.any,junkB g253,junkB g254,junkB g255,.any,.any,.bool (a0.View==[]),junkB g256,.any,.any,junkB g257,junkB g258,.bool false,.any,.any,.bool (!(a0.View==[])),junkB g259,.any,.any,junkB g260,junkB g261,.bool false,.any,.any,.any,.any,.any,.any,.any,.any,.any,.any,.any,.any,.any,.any,.any,.any,.any,.any,.any,.any,.any,.any,.any,.any,.any,.any,.any,.any,.any,.any,.any,.any,.any,.any,.any]∧H=[.cells (cReply a0)]∧r10_reply_J2 a0=some r) (fun fr H ⟨g256,g257,g258,g259,g260,g261,e1,e2,hF⟩=>?_) (fun hJ2=>?_)
  ·subst e1 e2
   refine xj (fun fr H=>∃ (p267 : Bool) (g268 : Option Bool) (g269 : Option Bool) (g270 : Option Bool) (g271 : Option Bool) (g272 : Option Bool) (g273 : Option Bool) (g274 : Option Bool) (g275 : Option Bool) (g276 : Option Bool) (g277 : Option Bool) (g278 : Option Bool) (g279 : Option Bool) (g280 : Option Bool) (g281 : Option Bool) (g282 : Option Bool) (g283 : Option Bool) (g284 : Option Bool) (g285 : Option Bool) (g286 : Option Bool),fr=[.any,.any,.bool p267,.any,.any,.any,.any,.any,.any,.bool false,.any,.any,.any,.any,.any,.any,.any,.any,.any,junkB g250,junkB g251,junkB g252,.any,.any,.any,.any,.any,.any,junkB g253,junkB g254,junkB g255,.any,.any,.bool (a0.View==[]),junkB g256,.any,.any,junkB g257,junkB g258,.bool false,.any,.any,.bool (!(a0.View==[])),junkB g259,.any,.any,junkB g260,junkB g261,.bool false,.any,.any,junkB g268,junkB g269,.any,.any,junkB g270,junkB g271,junkB g272,.any,.any,junkB g273,junkB g274,junkB g275,.any,.any,junkB g276,junkB g277,junkB g278,.any,.any,.any,junkB g279,junkB g280,junkB g281,.any,.any,junkB g282,junkB g283,junkB g284,.any,.any,.any,junkB g285,junkB g286]∧H=[]∧r10_reply_J3 p267=some r) (fun fr H ⟨p267,g268,g269,g270,g271,g272,g273,g274,g275,g276,g277,g278,g279,g280,g281,g282,g283,g284,g285,g286,e1,e2,hF⟩=>?_) (fun hJ3=>?_)
   ·subst e1 e2
    refine xt ?_
    cases hF
    exact fE [] (.inl rfl) rfl ⟨rfl,rfl⟩
   refine xr (wh 2 (bind_elim hF (fun y287 hy287 hF=>uC (r10_within_ev hy287) (lows_cons rfl (lows_cons rfl (lows_cons rfl rfl))) rfl (wh 4 ?_))))
   refine ite_elim hF (fun hc1 hF=>?_) (fun hc1 hF=>?_)
   ·refine wT 52 hc1 (wh 6 (bind_elim hF (fun y288 hy288 hF=>uC (r10_within_ev hy288) (lows_cons rfl (lows_cons rfl (lows_cons rfl rfl))) rfl (wh 9 ?_))))
    refine ite_elim hF (fun hc2 hF=>?_) (fun hc2 hF=>?_)
    ·refine wT 57 hc2 (wh 11 (bind_elim hF (fun y289 hy289 hF=>uC (r09_Right_ev hy289) (lows_cons rfl (lows_cons rfl rfl)) rfl (wh 14 ?_))))
     refine ite_elim hF (fun hc3 hF=>?_) (fun hc3 hF=>?_)
     ·refine wT 62 hc3 (wh 16 (bind_elim hF (fun y290 hy290 hF=>uC (r09_Right_ev hy290) (lows_cons rfl (lows_cons rfl rfl)) rfl (wh 19 ?_))))
      refine ite_elim hF (fun hc4 hF=>?_) (fun hc4 hF=>?_)
      ·refine wT 67 hc4 (wh 25 ?_)
       refine ite_elim hF (fun hc5 hF=>?_) (fun hc5 hF=>?_)
       ·refine wT 73 hc5 (wh 27 (bind_elim hF (fun y291 hy291 hF=>uC (r10_within_ev hy291) (lows_cons rfl (lows_cons rfl (lows_cons rfl rfl))) rfl (wh 30 ?_))))
        refine ite_elim hF (fun hc6 hF=>?_) (fun hc6 hF=>?_)
        ·exact wT 78 hc6 (wh 36 (we (then_n (x_to hJ3 (VS.shX [] 19342813113327301721325051 [19,20,21,28,29,30,34,37,38,43,46,47] (by kernel_rfl) (by kernel_rfl) (by kernel_rfl) (by exact ⟨low_junk g250,low_junk g251,low_junk g252,low_junk g253,low_junk g254,low_junk g255,low_junk g256,low_junk g257,low_junk g258,low_junk g259,low_junk g260,low_junk g261,trivial⟩) (tights_at [19,20,21,28,29,30,34,37,38,43,46,47] (by kernel_rfl) (by exact ⟨(tight_junk g250),(tight_junk g251),(tight_junk g252),(tight_junk g253),(tight_junk g254),(tight_junk g255),(tight_junk g256),(tight_junk g257),(tight_junk g258),(tight_junk g259),(tight_junk g260),(tight_junk g261),trivial⟩)) shh_nil) ⟨iLe (a0.Value.length : Int) 256,(some y287),(some true),(some y288),(some y288),(some true),(some y289),(some y289),(some true),(some y290),(some y290),(some true),(some (iLe (a0.Pending.l.length : Int) 8)),(some (iLe (a0.Pending.l.length : Int) 8)),(some true),(some y291),(some y291),(some true),(some (iLe (a0.Value.length : Int) 256)),(some (iLe (a0.Value.length : Int) 256)),rfl,rfl,hF⟩))))
        exact wF 78 hc6 (wh 36 (we (then_n (x_to hJ3 (VS.shX [] 19342813113327301721325051 [19,20,21,28,29,30,34,37,38,43,46,47] (by kernel_rfl) (by kernel_rfl) (by kernel_rfl) (by exact ⟨low_junk g250,low_junk g251,low_junk g252,low_junk g253,low_junk g254,low_junk g255,low_junk g256,low_junk g257,low_junk g258,low_junk g259,low_junk g260,low_junk g261,trivial⟩) (tights_at [19,20,21,28,29,30,34,37,38,43,46,47] (by kernel_rfl) (by exact ⟨(tight_junk g250),(tight_junk g251),(tight_junk g252),(tight_junk g253),(tight_junk g254),(tight_junk g255),(tight_junk g256),(tight_junk g257),(tight_junk g258),(tight_junk g259),(tight_junk g260),(tight_junk g261),trivial⟩)) shh_nil) ⟨false,(some y287),(some true),(some y288),(some y288),(some true),(some y289),(some y289),(some true),(some y290),(some y290),(some true),(some (iLe (a0.Pending.l.length : Int) 8)),(some (iLe (a0.Pending.l.length : Int) 8)),(some true),(some y291),(some y291),(some false),none,(some false),rfl,rfl,hF⟩))))
       exact wF 73 hc5 (wh 36 (we (then_n (x_to hJ3 (VS.shX [] 19342813113327301721325051 [19,20,21,28,29,30,34,37,38,43,46,47] (by kernel_rfl) (by kernel_rfl) (by kernel_rfl) (by exact ⟨low_junk g250,low_junk g251,low_junk g252,low_junk g253,low_junk g254,low_junk g255,low_junk g256,low_junk g257,low_junk g258,low_junk g259,low_junk g260,low_junk g261,trivial⟩) (tights_at [19,20,21,28,29,30,34,37,38,43,46,47] (by kernel_rfl) (by exact ⟨(tight_junk g250),(tight_junk g251),(tight_junk g252),(tight_junk g253),(tight_junk g254),(tight_junk g255),(tight_junk g256),(tight_junk g257),(tight_junk g258),(tight_junk g259),(tight_junk g260),(tight_junk g261),trivial⟩)) shh_nil) ⟨false,(some y287),(some true),(some y288),(some y288),(some true),(some y289),(some y289),(some true),(some y290),(some y290),(some true),(some (iLe (a0.Pending.l.length : Int) 8)),(some (iLe (a0.Pending.l.length : Int) 8)),(some false),none,(some false),(some false),none,(some false),rfl,rfl,hF⟩))))
      exact wF 67 hc4 (wh 36 (we (then_n (x_to hJ3 (VS.shX [] 19342813113327301721325051 [19,20,21,28,29,30,34,37,38,43,46,47] (by kernel_rfl) (by kernel_rfl) (by kernel_rfl) (by exact ⟨low_junk g250,low_junk g251,low_junk g252,low_junk g253,low_junk g254,low_junk g255,low_junk g256,low_junk g257,low_junk g258,low_junk g259,low_junk g260,low_junk g261,trivial⟩) (tights_at [19,20,21,28,29,30,34,37,38,43,46,47] (by kernel_rfl) (by exact ⟨(tight_junk g250),(tight_junk g251),(tight_junk g252),(tight_junk g253),(tight_junk g254),(tight_junk g255),(tight_junk g256),(tight_junk g257),(tight_junk g258),(tight_junk g259),(tight_junk g260),(tight_junk g261),trivial⟩)) shh_nil) ⟨false,(some y287),(some true),(some y288),(some y288),(some true),(some y289),(some y289),(some true),(some y290),(some y290),(some false),none,(some false),(some false),none,(some false),(some false),none,(some false),rfl,rfl,hF⟩))))
     exact wF 62 hc3 (wh 36 (we (then_n (x_to hJ3 (VS.shX [] 19342813113327301721325051 [19,20,21,28,29,30,34,37,38,43,46,47] (by kernel_rfl) (by kernel_rfl) (by kernel_rfl) (by exact ⟨low_junk g250,low_junk g251,low_junk g252,low_junk g253,low_junk g254,low_junk g255,low_junk g256,low_junk g257,low_junk g258,low_junk g259,low_junk g260,low_junk g261,trivial⟩) (tights_at [19,20,21,28,29,30,34,37,38,43,46,47] (by kernel_rfl) (by exact ⟨(tight_junk g250),(tight_junk g251),(tight_junk g252),(tight_junk g253),(tight_junk g254),(tight_junk g255),(tight_junk g256),(tight_junk g257),(tight_junk g258),(tight_junk g259),(tight_junk g260),(tight_junk g261),trivial⟩)) shh_nil) ⟨false,(some y287),(some true),(some y288),(some y288),(some true),(some y289),(some y289),(some false),none,(some false),(some false),none,(some false),(some false),none,(some false),(some false),none,(some false),rfl,rfl,hF⟩))))
    exact wF 57 hc2 (wh 36 (we (then_n (x_to hJ3 (VS.shX [] 19342813113327301721325051 [19,20,21,28,29,30,34,37,38,43,46,47] (by kernel_rfl) (by kernel_rfl) (by kernel_rfl) (by exact ⟨low_junk g250,low_junk g251,low_junk g252,low_junk g253,low_junk g254,low_junk g255,low_junk g256,low_junk g257,low_junk g258,low_junk g259,low_junk g260,low_junk g261,trivial⟩) (tights_at [19,20,21,28,29,30,34,37,38,43,46,47] (by kernel_rfl) (by exact ⟨(tight_junk g250),(tight_junk g251),(tight_junk g252),(tight_junk g253),(tight_junk g254),(tight_junk g255),(tight_junk g256),(tight_junk g257),(tight_junk g258),(tight_junk g259),(tight_junk g260),(tight_junk g261),trivial⟩)) shh_nil) ⟨false,(some y287),(some true),(some y288),(some y288),(some false),none,(some false),(some false),none,(some false),(some false),none,(some false),(some false),none,(some false),(some false),none,(some false),rfl,rfl,hF⟩))))
   exact wF 52 hc1 (wh 36 (we (then_n (x_to hJ3 (VS.shX [] 19342813113327301721325051 [19,20,21,28,29,30,34,37,38,43,46,47] (by kernel_rfl) (by kernel_rfl) (by kernel_rfl) (by exact ⟨low_junk g250,low_junk g251,low_junk g252,low_junk g253,low_junk g254,low_junk g255,low_junk g256,low_junk g257,low_junk g258,low_junk g259,low_junk g260,low_junk g261,trivial⟩) (tights_at [19,20,21,28,29,30,34,37,38,43,46,47] (by kernel_rfl) (by exact ⟨(tight_junk g250),(tight_junk g251),(tight_junk g252),(tight_junk g253),(tight_junk g254),(tight_junk g255),(tight_junk g256),(tight_junk g257),(tight_junk g258),(tight_junk g259),(tight_junk g260),(tight_junk g261),trivial⟩)) shh_nil) ⟨false,(some y287),(some false),none,(some false),(some false),none,(some false),(some false),none,(some false),(some false),none,(some false),(some false),none,(some false),(some false),none,(some false),rfl,rfl,hF⟩))))
  refine xq (wh 4 ?_)
  refine ite_elim hF (fun hc7 hF=>?_) (fun hc7 hF=>?_)
  ·refine wT 34 hc7 (wh 9 ?_)
   refine ite_elim hF (fun hc8 hF=>?_) (fun hc8 hF=>?_)
   ·refine wT 39 hc8 (wh 18 (we (ng (xT (xq (wh 1 (we (ng (xt (then_r ?_))))))))))
    cases hF
    exact fE [] (.inl rfl) rfl ⟨rfl,rfl⟩
   exact wF 39 hc8 (wh 13 (wF 43 (show (!(a0.View==[]))=false by rw [hc7]; rfl) (wh 18 (we (ng (xF (xk (then_n (x_to hJ2 (VS.sm 19342813113547633543609849) ⟨(some true),(some (a0.Last != (-1))),(some (a0.Last != (-1))),(some false),none,(some false),rfl,rfl,hF⟩)))))))))
  refine wF 34 hc7 (wh 13 (wT 43 (show (!(a0.View==[]))=true by rw [hc7]; rfl) (wh 18 (we (ng ?_)))))
  refine ite_elim hF (fun hc9 hF=>?_) (fun hc9 hF=>?_)
  ·refine kT 48 hc9 (xT (xq (wh 1 (we (ng (xt (then_r ?_)))))))
   cases hF
   exact fE [] (.inl rfl) rfl ⟨rfl,rfl⟩
  exact kF 48 hc9 (xF (xk (then_n (x_to hJ2 (VS.sm 19342813113547633543609849) ⟨(some false),none,(some false),(some true),(some (a0.Last==(-1))),(some (a0.Last==(-1))),rfl,rfl,hF⟩))))
 refine xq (wh 1 (we (ng (xb (x_loop (fun d fr H=>∃ (x328 : Int) (g303 : Option Bool) (g304 : Option Bool) (g305 : Option Bool) (g306 : Option Bool) (g307 : Option Bool) (g308 : Option Bool) (g309 : Option Bool),fr=[.any,.ptr 0 0,.bool false,.int .i64 x328,.any,.any,.any,.any,.any,junkB g303,.any,.any,.any,.any,.any,.any,.any,.any,.any,junkB g304,junkB g305,junkB g306,.any,.any,.any,.any,.any,.any,junkB g307,junkB g308,junkB g309,.any,.any,.any,.any,.any,.any,.any,.any,.any,.any,.any,.any,.any,.any,.any,.any,.any,.any,.any,.any,.any,.any,.any,.any,.any,.any,.any,.any,.any,.any,.any,.any,.any,.any,.any,.any,.any,.any,.any,.any,.any,.any,.any,.any,.any,.any,.any,.any,.any,.any,.any,.any,.any]∧H=[.cells (cReply a0)]∧loopN (r10_reply_B328 a0) d x328=some r) (by kernel_rfl) (fun fr H ⟨x328,g303,g304,g305,g306,g307,g308,g309,e1,e2,hF⟩=>loop_no hF) (fun d328 fr H ⟨x328,g303,g304,g305,g306,g307,g308,g309,e1,e2,hF⟩=>?_) (VS.sm 19342813113834066795298801) ⟨0,none,none,none,none,none,none,none,rfl,rfl,hF⟩)))))
 subst e1 e2
 have hF:=loop_in hF
 refine xs (xq (wh 5 (we (ng ?_))))
 refine ite_elim hF (fun hc10 hF=>?_) (fun hc10 hF=>?_)
 ·refine kT 9 hc10 (xT (xk (ng (xs (xb (xq (wh 3 (bind_elim hF (fun y334 hy334 hF=>uI cPending 68 hy334 len_cPending (uE cPending 0 (t:=46) (v:=.agg (cPending y334)) 68 68 hy334 len_cPending (wr 7 [.cells (cReply a0),.cells (cPending y334)] (we (ng (xq (wh 2 (bind_elim hF (fun y337 hy337 hF=>uC (r10_within_ev hy337) (lows_cons rfl (lows_cons rfl (lows_cons rfl rfl))) rfl (wh 5 ?_))))))))))))))))))
  refine ite_elim hF (fun hc11 hF=>?_) (fun hc11 hF=>?_)
  ·refine wF 21 (show (!y337)=false by rw [hc11]; rfl) (wh 11 (bind_elim hF (fun y338 hy338 hF=>uC (r10_asks_ev hy338) (lows_cons rfl (lows_cons rfl (lows_cons rfl rfl))) rfl (wh 14 (we (ng ?_))))))
   refine ite_elim hF (fun hc12 hF=>?_) (fun hc12 hF=>?_)
   ·exact kF 30 (show (!y338)=false by rw [hc12]; rfl) (xF (xk (block_n (ng (xr (wh 3 (we (then_n (x_back (VS.si [0] 19342813113834066795298801 (by kernel_rfl) (st (tights_lows (low_cReply _)) rfl shh_nil)) ⟨iAdd .i64 x328 1,(some true),(some y337),(some (!y337)),(some false),(some y338),(some (!y338)),(some false),rfl,rfl,hF⟩)))))))))
   refine kT 30 (show (!y338)=true by rw [hc12]; rfl) (xT (xq (wh 1 (we (ng (xt (block_r (then_r (then_r (block_r (then_r ?_)))))))))))
   cases hF
   exact fE [] (.inl rfl) rfl ⟨rfl,rfl⟩
  refine wT 21 (show (!y337)=true by rw [hc11]; rfl) (wh 14 (we (ng (xT (xq (wh 1 (we (ng (xt (block_r (then_r (then_r (block_r (then_r ?_))))))))))))))
  cases hF
  exact fE [] (.inl rfl) rfl ⟨rfl,rfl⟩
 exact kF 9 hc10 (xF (xe (then_e (then_e (block_e (then_n (x_to hJ1 (VS.sm 19342813113834064912580089) ⟨g304,g305,g306,g307,g308,g309,rfl,rfl,hF⟩)))))))
def r10_Right_2 (a0 : Submit) (a1 : Reply) (a2 : List UInt8) (a3 : Arr 32) (a4 : Arr 32) (a5 : Blob) (a6 : Sl Int) : Option Bool :=
  (r10_within 2 1 11).bind fun y199=>if y199=true then (r10_within 0 0 7).bind fun y200=>if y200=true then (r10_bare_2 a0 a1 a2 a3 a4 a5 a6).bind fun y201=>(r10_Same y201 (⟨2,0,(⟨0,0,0,[],(Arr.zero 32),(Arr.zero 32)⟩ : Submit),(⟨0,0,[],(Arr.zero 32),⟨true,true,[]⟩,0,[],(Arr.zero 32),[],(Arr.zero 32)⟩ : Reply),[],0,(Arr.zero 32),(Arr.zero 32),(⟨0,0,[],(Arr.zero 32)⟩ : Blob),(⟨true,true,[]⟩ : Sl Int)⟩ : Msg)).bind fun y202=>if y202=true then (r10_reply a1).bind fun y206=>some y206 else some false else some false else some false
theorem r10_Right_2_ev {a0 : Submit} {a1 : Reply} {a2 : List UInt8} {a3 : Arr 32} {a4 : Arr 32} {a5 : Blob} {a6 : Sl Int} {r : Bool} (hF : r10_Right_2 a0 a1 a2 a3 a4 a5 a6=some r) : EvCall Tryz.prog T G0 55 [.agg ((cI .i64) 2++(cI .i64) 0++cSubmit a0++cReply a1++cS a2++(cI .i64) 0++(cA .u8) a3++(cA .u8) a4++cBlob a5++(cL (cI .i64)) a6)] [] (fun v H'=>v=.bool r∧H'=[]):=by
 refine xc Tryz.func55 ?_
 refine xq (wr 2 [.cells (((cI .i64) 2++(cI .i64) 0++cSubmit a0++cReply a1++cS a2++(cI .i64) 0++(cA .u8) a3++(cA .u8) a4++cBlob a5++(cL (cI .i64)) a6))] (we (ng (xs (xs (xd 0 call_ends callMono (wp 2 (bind_elim hF (fun y199 hy199 hF=>uC (r10_within_ev hy199) (lows_cons rfl (lows_cons rfl (lows_cons rfl rfl))) rfl (wp 5 ?_))))))))))
 refine ite_elim hF (fun hc1 hF=>?_) (fun hc1 hF=>?_)
 ·refine wF 7 (show (!y199)=false by rw [hc1]; rfl) (wp 7 (bind_elim hF (fun y200 hy200 hF=>uC (r10_within_ev hy200) (lows_cons rfl (lows_cons rfl (lows_cons rfl rfl))) rfl (wp 11 ?_))))
  refine ite_elim hF (fun hc2 hF=>?_) (fun hc2 hF=>?_)
  ·refine wF 13 (show (!y200)=false by rw [hc2]; rfl) (wp 12 (bind_elim hF (fun y201 hy201 hF=>uC (r10_bare_2_ev hy201) (lows_cons (low_agg (lows_app (lows_app (lows_app (lows_app (lows_app (lows_app (lows_app (lows_app (lows_app (low_cI _) (low_cI _)) (low_cSubmit _)) (low_cReply _)) (low_cS _)) (low_cI _)) (low_cA _)) (low_cA _)) (low_cBlob _)) ((low_cL low_cI) _))) rfl) (low_agg (low_cMsg _)) (wp 18 (bind_elim hF (fun y202 hy202 hF=>uC (r10_Same_ev hy202) (lows_cons (low_agg (low_cMsg _)) (lows_cons (low_agg (low_cMsg _)) rfl)) rfl (wp 21 (we (de (ng ?_))))))))))
   refine ite_elim hF (fun hc3 hF=>?_) (fun hc3 hF=>?_)
   ·refine kF 23 (show (!y202)=false by rw [hc3]; rfl) (xF (xk (ng (xs (xq (wh 2 (we (ng (xb (xq (wh 2 (we (ng (xF (xq (wh 2 (we (ng (xT (xq (wh 6 (bind_elim hF (fun y206 hy206 hF=>uC (r10_reply_ev hy206) (lows_cons (low_agg (low_cReply _)) rfl) rfl (wh 9 (we (ng (xt (block_r (then_r ?_)))))))))))))))))))))))))))))
    cases hF
    exact fE [] (.inl rfl) rfl ⟨rfl,rfl⟩
   refine kT 23 (show (!y202)=true by rw [hc3]; rfl) (xT (xq (wh 1 (we (ng (xt (then_r ?_)))))))
   cases hF
   exact fE [] (.inl rfl) rfl ⟨rfl,rfl⟩
  refine wT 13 (show (!y200)=true by rw [hc2]; rfl) (wp 21 (we (de (ng (xT (xq (wh 1 (we (ng (xt (then_r ?_)))))))))))
  cases hF
  exact fE [] (.inl rfl) rfl ⟨rfl,rfl⟩
 refine wT 7 (show (!y199)=true by rw [hc1]; rfl) (wp 21 (we (de (ng (xT (xq (wh 1 (we (ng (xt (then_r ?_)))))))))))
 cases hF
 exact fE [] (.inl rfl) rfl ⟨rfl,rfl⟩
def r09_Goes_J1  : Option Bool :=
  some true
def r09_Goes_B319 (a0 : List UInt8) (a1 : List UInt8) (k319 : Int→Option Bool) (x319 : Int) : Option Bool :=
  if iLt x319 (a1.length : Int)=true then (idxB a0 x319).bind fun y326=>(idxB a1 x319).bind fun y327=>if (y326 != y327)=true then some false else k319 (iAdd .i64 x319 1) else r09_Goes_J1
def r09_Goes (a0 : List UInt8) (a1 : List UInt8) : Option Bool :=
  if iGt (a1.length : Int) (a0.length : Int)=true then some false else loopN (r09_Goes_B319 a0 a1) FUEL 0
theorem r09_Goes_ev {a0 : List UInt8} {a1 : List UInt8} {r : Bool} (hF : r09_Goes a0 a1=some r) : EvCall Tryz.prog T G0 26 [.str a0,.str a1] [] (fun v H'=>v=.bool r∧H'=[]):=by
 refine xc Tryz.func26 ?_
 refine xq (wh 1 (we (ng (xs (xq (wh 5 (we (ng ?_))))))))
 refine ite_elim hF (fun hc1 hF=>?_) (fun hc1 hF=>?_)
 ·refine kT 10 hc1 (xT (xq (wh 1 (we (ng (xt (then_r ?_)))))))
  cases hF
  exact fE [] (.inl rfl) rfl ⟨rfl,rfl⟩
 refine kF 10 hc1 (xF (xk (ng ?_)))
 refine xj (fun fr H=>∃ (g296 : Option Bool),fr=[.any,.any,.any,.any,.bool false,.any,.any,.any,.any,.any,.bool false,.any,.any,.any,.bool false,.any,.any,.any,.any,.any,.any,.any,.any,junkB g296]∧H=[]∧r09_Goes_J1=some r) (fun fr H ⟨g296,e1,e2,hF⟩=>?_) (fun hJ1=>?_)
 ·subst e1 e2
  refine xq (wh 1 (we (ng (xt ?_))))
  cases hF
  exact fE [] (.inl rfl) rfl ⟨rfl,rfl⟩
 refine xq (wh 1 (we (ng (xb (x_loop (fun d fr H=>∃ (x319 : Int) (g306 : Option Bool) (g307 : Option Bool),fr=[.str a0,.str a1,.any,.any,.bool false,.int .i64 x319,.any,.any,.any,.any,.bool false,.any,.any,.any,junkB g306,.any,.any,.any,.any,.any,.any,.any,.any,junkB g307]∧H=[]∧loopN (r09_Goes_B319 a0 a1) d x319=some r) (by kernel_rfl) (fun fr H ⟨x319,g306,g307,e1,e2,hF⟩=>loop_no hF) (fun d319 fr H ⟨x319,g306,g307,e1,e2,hF⟩=>?_) (VS.sm 16776140) ⟨0,none,none,rfl,rfl,hF⟩)))))
 subst e1 e2
 have hF:=loop_in hF
 refine xs (xq (wh 4 (we (ng ?_))))
 refine ite_elim hF (fun hc2 hF=>?_) (fun hc2 hF=>?_)
 ·refine kT 14 hc2 (xT (xk (ng (xs (xb (xs (xd 0 call_ends callMono (wp 2 (bind_elim hF (fun y326 hy326 hF=>w_idx (by kernel_rfl) hy326 (wp 5 (bind_elim hF (fun y327 hy327 hF=>w_idx (by kernel_rfl) hy327 (wp 7 (we (de (ng ?_)))))))))))))))))
  refine ite_elim hF (fun hc3 hF=>?_) (fun hc3 hF=>?_)
  ·refine kT 23 hc3 (xT (xq (wh 1 (we (ng (xt (block_r (then_r (then_r (block_r (then_r ?_)))))))))))
   cases hF
   exact fE [] (.inl rfl) rfl ⟨rfl,rfl⟩
  exact kF 23 hc3 (xF (xk (block_n (ng (xr (wh 3 (we (then_n (x_back (VS.sm 16776140) ⟨iAdd .i64 x319 1,(some true),(some false),rfl,rfl,hF⟩)))))))))
 exact kF 14 hc2 (xF (xe (then_e (then_e (block_e (then_n (x_to hJ1 (VS.sm 8371183) ⟨g307,rfl,rfl,hF⟩)))))))
def r14_first_J1 (a0 : Int) (a1 : List UInt8) (a2 : Reply) : Option Int :=
  (r09_Goes a2.View a1).bind fun y274=>if y274=true then (r09_Count a2.View a0).bind fun y275=>(r09_Count a1 a0).bind fun y276=>if (y275 != y276)=true then some 8 else some 0 else some 8
def r14_first (a0 : Int) (a1 : List UInt8) (a2 : Reply) (a3 : Affidavitref04_Ring) : Option Int :=
  if (a2.View==[])=true then r14_first_J1 a0 a1 a2 else (r14_is a2.Last a3).bind fun y291=>if y291=true then (r09_Right a2.View a3.N).bind fun y292=>if y292=true then (idxB a2.View (iSub .i64 (a2.View.length : Int) 1)).bind fun y296=>if (IntKind.wrap .i64 y296 != a2.Last)=true then some 8 else (r14_tagged a2.Last 3 a2.View a2.Commit a3).bind fun y297=>if y297=true then r14_first_J1 a0 a1 a2 else some 7 else some 2 else some 2
theorem r14_first_ev {a0 : Int} {a1 : List UInt8} {a2 : Reply} {a3 : Affidavitref04_Ring} {r : Int} (hF : r14_first a0 a1 a2 a3=some r) : EvCall Tryz.prog T G0 58 [.ptr 0 0,.int .i64 a0,.str a1,.agg (cReply a2)] [.cells (cAffidavitref04_Ring a3)] (fun v H'=>v=.int .i64 r∧H'=[.cells (cAffidavitref04_Ring a3)]):=by
 refine xc Tryz.func58 ?_
 refine xq (wr 2 [.cells (cAffidavitref04_Ring a3),.cells (cReply a2)] (we (ng ?_)))
 refine xj (fun fr H=>∃ (g255 : Option Bool) (g256 : Option Bool) (g257 : Option Bool) (g258 : Option Bool) (g259 : Option Bool) (g260 : Option Bool) (g261 : Option Bool) (g262 : Option Bool) (g263 : Option Bool) (g264 : Option Bool),fr=[.any,.int .i64 a0,.str a1,.any,.any,.any,.any,.ptr 1 0,.any,.any,.any,junkB g255,.any,.any,.any,junkB g256,junkB g257,junkB g258,.any,.any,.any,.any,.any,.any,junkB g259,junkB g260,junkB g261,.any,.any,.any,.any,.any,.any,.any,.any,.any,.any,junkB g262,.any,.any,.any,.any,.any,.any,.any,junkB g263,junkB g264,.any,.any,.any,.any,.any,.any,.any,.any,.any,.any,.any,.any,.any,.any,.any]∧H=[.cells (cAffidavitref04_Ring a3),.cells (cReply a2)]∧r14_first_J1 a0 a1 a2=some r) (fun fr H ⟨g255,g256,g257,g258,g259,g260,g261,g262,g263,g264,e1,e2,hF⟩=>?_) (fun hJ1=>?_)
 ·subst e1 e2
  refine xs (xq (wh 3 (bind_elim hF (fun y274 hy274 hF=>uC (r09_Goes_ev hy274) (lows_cons rfl (lows_cons rfl rfl)) rfl (wh 6 ?_)))))
  refine ite_elim hF (fun hc1 hF=>?_) (fun hc1 hF=>?_)
  ·refine wF 52 (show (!y274)=false by rw [hc1]; rfl) (wh 9 (bind_elim hF (fun y275 hy275 hF=>uC (r09_Count_ev hy275) (lows_cons rfl (lows_cons rfl rfl)) rfl (wh 12 (bind_elim hF (fun y276 hy276 hF=>uC (r09_Count_ev hy276) (lows_cons rfl (lows_cons rfl rfl)) rfl (wh 15 (we (ng ?_)))))))))
   refine ite_elim hF (fun hc2 hF=>?_) (fun hc2 hF=>?_)
   ·refine kT 61 hc2 (xT (xq (wh 1 (we (ng (xt (then_r ?_)))))))
    cases hF
    exact fS [0] (.inl rfl) rfl (st (tights_lows (low_cAffidavitref04_Ring _)) rfl shh_nil) ⟨rfl,rfl⟩
   refine kF 61 hc2 (xF (xk (ng (xq (wh 1 (we (ng (xt ?_))))))))
   cases hF
   exact fS [0] (.inl rfl) rfl (st (tights_lows (low_cAffidavitref04_Ring _)) rfl shh_nil) ⟨rfl,rfl⟩
  refine wT 52 (show (!y274)=true by rw [hc1]; rfl) (wh 15 (we (ng (xT (xq (wh 1 (we (ng (xt (then_r ?_))))))))))
  cases hF
  exact fS [0] (.inl rfl) rfl (st (tights_lows (low_cAffidavitref04_Ring _)) rfl shh_nil) ⟨rfl,rfl⟩
 refine xq (wh 3 (we (ng ?_)))
 refine ite_elim hF (fun hc3 hF=>?_) (fun hc3 hF=>?_)
 ·exact kF 11 (show (!(a2.View==[]))=false by rw [hc3]; rfl) (xF (xk (then_n (x_to hJ1 (VS.sm 4611686018427387769) ⟨(some false),none,none,none,none,none,none,none,none,none,rfl,rfl,hF⟩))))
 refine kT 11 (show (!(a2.View==[]))=true by rw [hc3]; rfl) (xT (xs (xs (xd 0 call_ends callMono (wp 3 (bind_elim hF (fun y291 hy291 hF=>uOs [0] [0] (v:=.bool y291) [.cells (cAffidavitref04_Ring a3)] (r14_is_ev hy291) (by kernel_rfl) (pl (b':=.cells (cAffidavitref04_Ring a3)) (by kernel_rfl) (sb_cells (by kernel_rfl) (by kernel_rfl) (tights_lows (low_cAffidavitref04_Ring _))) pl_nil) rfl (sbs (sb_cells (by kernel_rfl) (by kernel_rfl) (tights_lows (low_cAffidavitref04_Ring _))) sbs_nil) (wp 6 ?_))))))))
 refine ite_elim hF (fun hc4 hF=>?_) (fun hc4 hF=>?_)
 ·refine wF 17 (show (!y291)=false by rw [hc4]; rfl) (wp 12 (bind_elim hF (fun y292 hy292 hF=>uC (r09_Right_ev hy292) (lows_cons rfl (lows_cons rfl rfl)) rfl (wp 15 (we (de (ng ?_)))))))
  refine ite_elim hF (fun hc5 hF=>?_) (fun hc5 hF=>?_)
  ·refine kF 26 (show (!y292)=false by rw [hc5]; rfl) (xF (xk (ng (xs (xs (xd 0 call_ends callMono (wp 6 (bind_elim hF (fun y296 hy296 hF=>w_idx (by kernel_rfl) hy296 (wp 11 (we (de (ng ?_)))))))))))))
   refine ite_elim hF (fun hc6 hF=>?_) (fun hc6 hF=>?_)
   ·refine kT 37 hc6 (xT (xq (wh 1 (we (ng (xt (then_r (then_r ?_))))))))
    cases hF
    exact fS [0] (.inl rfl) rfl (st (tights_lows (low_cAffidavitref04_Ring _)) rfl shh_nil) ⟨rfl,rfl⟩
   refine kF 37 hc6 (xF (xk (ng (xq (wh 7 (bind_elim hF (fun y297 hy297 hF=>uOs [0] [0] (v:=.bool y297) [.cells (cAffidavitref04_Ring a3)] (r14_tagged_ev hy297) (tights_cons rfl (tights_cons rfl (tights_cons rfl (tights_cons rfl (tights_cons (tight_agg (tights_lows (low_cA _))) rfl))))) (pl (b':=.cells (cAffidavitref04_Ring a3)) (by kernel_rfl) (sb_cells (by kernel_rfl) (by kernel_rfl) (tights_lows (low_cAffidavitref04_Ring _))) pl_nil) rfl (sbs (sb_cells (by kernel_rfl) (by kernel_rfl) (tights_lows (low_cAffidavitref04_Ring _))) sbs_nil) (wh 9 (we (ng ?_))))))))))
   refine ite_elim hF (fun hc7 hF=>?_) (fun hc7 hF=>?_)
   ·exact kF 46 (show (!y297)=false by rw [hc7]; rfl) (xF (xk (then_n (x_to hJ1 (VS.sm 4611686018427387769) ⟨(some true),(some y291),(some (!y291)),(some false),(some y292),(some (!y292)),(some false),(some false),(some y297),(some false),rfl,rfl,hF⟩))))
   refine kT 46 (show (!y297)=true by rw [hc7]; rfl) (xT (xq (wh 1 (we (ng (xt (then_r ?_)))))))
   cases hF
   exact fS [0] (.inl rfl) rfl (st (tights_lows (low_cAffidavitref04_Ring _)) rfl shh_nil) ⟨rfl,rfl⟩
  refine kT 26 (show (!y292)=true by rw [hc5]; rfl) (xT (xq (wh 1 (we (ng (xt (then_r (then_r ?_))))))))
  cases hF
  exact fS [0] (.inl rfl) rfl (st (tights_lows (low_cAffidavitref04_Ring _)) rfl shh_nil) ⟨rfl,rfl⟩
 refine wT 17 (show (!y291)=true by rw [hc4]; rfl) (wp 15 (we (de (ng (xT (xq (wh 1 (we (ng (xt (then_r (then_r ?_))))))))))))
 cases hF
 exact fS [0] (.inl rfl) rfl (st (tights_lows (low_cAffidavitref04_Ring _)) rfl shh_nil) ⟨rfl,rfl⟩
def r10_Text (a0 : List UInt8) : Option (List UInt8) :=
  (r01_Digits (a0.length : Int)).bind fun y352=>(catS y352 [58]).bind fun y353=>(catS y353 a0).bind fun y354=>some y354
theorem r10_Text_ev {a0 : List UInt8} {r : (List UInt8)} (hF : r10_Text a0=some r) : EvCall Tryz.prog T G0 75 [.str a0] [] (fun v H'=>v=.str r∧H'=[]):=by
 refine xc Tryz.func75 ?_
 refine xq (wh 1 (we (ng (xq (wh 2 (bind_elim hF (fun y352 hy352 hF=>uC (r01_Digits_ev hy352) (lows_cons rfl rfl) rfl (bind_elim hF (fun y353 hy353 hF=>w_cat (by kernel_rfl) hy353 (wh 5 (bind_elim hF (fun y354 hy354 hF=>w_cat (by kernel_rfl) hy354 (wh 7 (we (ng (xt ?_))))))))))))))))
 cases hF
 exact fE [] (.inl rfl) rfl ⟨rfl,rfl⟩
def r10_Numbered_J1 (a0 : Int) (p349 : List UInt8) : Option (List UInt8) :=
  (r01_Number a0).bind fun y351=>(r10_Text p349).bind fun y352=>(catS y351 y352).bind fun y353=>some y353
def r10_Numbered (a0 : Int) (a1 : List UInt8) : Option (List UInt8) :=
  if iGt (a1.length : Int) 16384=true then r10_Numbered_J1 a0 [] else r10_Numbered_J1 a0 a1
theorem r10_Numbered_ev {a0 : Int} {a1 : List UInt8} {r : (List UInt8)} (hF : r10_Numbered a0 a1=some r) : EvCall Tryz.prog T G0 30 [.int .i64 a0,.str a1] [] (fun v H'=>v=.str r∧H'=[]):=by
 refine xc Tryz.func30 ?_
 refine xq (wh 1 (we (ng ?_)))
 refine xj (fun fr H=>∃ (p349 : List UInt8) (g350 : Option Bool),fr=[.int .i64 a0,.str p349,.any,.any,.any,.any,.any,junkB g350,.any,.any,.any,.any,.any]∧H=[]∧r10_Numbered_J1 a0 p349=some r) (fun fr H ⟨p349,g350,e1,e2,hF⟩=>?_) (fun hJ1=>?_)
 ·subst e1 e2
  refine xq (wh 1 (bind_elim hF (fun y351 hy351 hF=>uC (r01_Number_ev hy351) (lows_cons rfl rfl) rfl (wh 3 (bind_elim hF (fun y352 hy352 hF=>uC (r10_Text_ev hy352) (lows_cons rfl rfl) rfl (bind_elim hF (fun y353 hy353 hF=>w_cat (by kernel_rfl) hy353 (wh 6 (we (ng (xt ?_))))))))))))
  cases hF
  exact fE [] (.inl rfl) rfl ⟨rfl,rfl⟩
 refine xq (wh 3 (we (ng ?_)))
 refine ite_elim hF (fun hc1 hF=>?_) (fun hc1 hF=>?_)
 ·exact kT 7 hc1 (xT (xr (wh 1 (we (then_n (x_to hJ1 (VS.sm 8188) ⟨[],(some true),rfl,rfl,hF⟩))))))
 exact kF 7 hc1 (xF (xk (then_n (x_to hJ1 (VS.sm 8188) ⟨a1,(some false),rfl,rfl,hF⟩))))
def r14_fifth_J2 (a0 : List UInt8) (a1 : Int) (a2 : Reply) (a3 : Affidavitref04_Ring) (y342 : Int) : Option Int :=
  if (a2.Seen==[])=true then some 0 else (r09_Count a2.Seen a1).bind fun y359=>(idxB a2.Seen (iSub .i64 (a2.Seen.length : Int) 1)).bind fun y366=>if (IntKind.wrap .i64 y366 != a1)=true then some 8 else (r09_Goes a0 a2.Seen).bind fun y367=>if y367=true then if iGt y359 y342=true then some 8 else if iLt y359 (iSub .i64 y342 1)=true then some 8 else (r14_tagged a1 3 a2.Seen a2.SeenTag a3).bind fun y369=>if y369=true then some 0 else some 7 else some 8
def r14_fifth_J1 (a0 : List UInt8) (a1 : Int) (a2 : Reply) (a3 : Affidavitref04_Ring) (y342 : Int) : Option Int :=
  if (y342==0)=true then some 0 else (r10_Numbered y342 a2.Value).bind fun y355=>(r14_tagged a1 2 y355 a2.Data a3).bind fun y356=>if y356=true then if (a2.Seen==[])=true then if iGt y342 1=true then some 8 else r14_fifth_J2 a0 a1 a2 a3 y342 else r14_fifth_J2 a0 a1 a2 a3 y342 else some 7
def r14_fifth (a0 : List UInt8) (a1 : Int) (a2 : Reply) (a3 : Affidavitref04_Ring) : Option Int :=
  (r09_Count a0 a1).bind fun y342=>if (a2.ValueNumber != y342)=true then some 8 else if (y342==0)=true then if (a2.Value==[])=true then if (a2.Seen==[])=true then r14_fifth_J1 a0 a1 a2 a3 y342 else some 8 else some 8 else r14_fifth_J1 a0 a1 a2 a3 y342
theorem r14_fifth_ev {a0 : List UInt8} {a1 : Int} {a2 : Reply} {a3 : Affidavitref04_Ring} {r : Int} (hF : r14_fifth a0 a1 a2 a3=some r) : EvCall Tryz.prog T G0 60 [.ptr 0 0,.str a0,.int .i64 a1,.agg (cReply a2)] [.cells (cAffidavitref04_Ring a3)] (fun v H'=>v=.int .i64 r∧H'=[.cells (cAffidavitref04_Ring a3)]):=by
 refine xc Tryz.func60 ?_
 refine xq (wr 2 [.cells (cAffidavitref04_Ring a3),.cells (cReply a2)] (we (ng (xq (wh 2 (bind_elim hF (fun y342 hy342 hF=>uC (r09_Count_ev hy342) (lows_cons rfl (lows_cons rfl rfl)) rfl (wh 4 (we (ng ?_))))))))))
 refine xj (fun fr H=>∃ (g343 : Option Bool) (g344 : Option Bool) (g345 : Option Bool) (g346 : Option Bool) (g347 : Option Bool) (g348 : Option Bool),fr=[.ptr 0 0,.str a0,.int .i64 a1,.any,.any,.any,.any,.ptr 1 0,.any,.int .i64 y342,.any,.any,.any,.any,.any,.any,.any,.bool (a2.ValueNumber != y342),.bool false,.any,.bool (y342==0),junkB g343,.any,.any,junkB g344,junkB g345,.any,.any,junkB g346,junkB g347,junkB g348,.bool false,.any,.any,.any,.any,.any,.any,.any,.any,.any,.any,.any,.any,.any,.any,.any,.any,.any,.any,.any,.any,.any,.any,.any,.any,.any,.any,.any,.any,.any,.any,.any,.any,.any,.any,.any,.any,.any,.any,.any,.any,.any,.any,.any,.any,.any,.any,.any,.any,.any,.any,.any,.any,.any,.any,.any,.any,.any,.any,.any,.any,.any,.any]∧H=[.cells (cAffidavitref04_Ring a3),.cells (cReply a2)]∧r14_fifth_J1 a0 a1 a2 a3 y342=some r) (fun fr H ⟨g343,g344,g345,g346,g347,g348,e1,e2,hF⟩=>?_) (fun hJ1=>?_)
 ·subst e1 e2
  refine xs (xq (wh 2 (we (ng ?_))))
  refine ite_elim hF (fun hc1 hF=>?_) (fun hc1 hF=>?_)
  ·refine kT 33 hc1 (xT (xq (wh 1 (we (ng (xt (then_r ?_)))))))
   cases hF
   exact fS [0] (.inl rfl) rfl (st (tights_lows (low_cAffidavitref04_Ring _)) rfl shh_nil) ⟨rfl,rfl⟩
  refine kF 33 hc1 (xF (xk (ng (xs (xs (xd 0 call_ends callMono (wp 5 (bind_elim hF (fun y355 hy355 hF=>uC (r10_Numbered_ev hy355) (lows_cons rfl (lows_cons rfl rfl)) rfl (wp 8 (bind_elim hF (fun y356 hy356 hF=>uOs [0] [0] (v:=.bool y356) [.cells (cAffidavitref04_Ring a3)] (r14_tagged_ev hy356) (tights_cons rfl (tights_cons rfl (tights_cons rfl (tights_cons rfl (tights_cons (tight_agg (tights_lows (low_cA _))) rfl))))) (pl (b':=.cells (cAffidavitref04_Ring a3)) (by kernel_rfl) (sb_cells (by kernel_rfl) (by kernel_rfl) (tights_lows (low_cAffidavitref04_Ring _))) pl_nil) rfl (sbs (sb_cells (by kernel_rfl) (by kernel_rfl) (tights_lows (low_cAffidavitref04_Ring _))) sbs_nil) (wp 10 (we (de (ng ?_))))))))))))))))
  refine ite_elim hF (fun hc2 hF=>?_) (fun hc2 hF=>?_)
  ·refine kF 43 (show (!y356)=false by rw [hc2]; rfl) (xF (xk (ng ?_)))
   refine xj (fun fr H=>∃ (g357 : Option Bool) (g358 : Option Bool),fr=[.ptr 0 0,.str a0,.int .i64 a1,.any,.any,.any,.any,.ptr 1 0,.any,.int .i64 y342,.any,.any,.any,.any,.any,.any,.any,.bool (a2.ValueNumber != y342),.bool false,.any,.bool (y342==0),junkB g343,.any,.any,junkB g344,junkB g345,.any,.any,junkB g346,junkB g347,junkB g348,.bool false,.any,.bool false,.any,.any,.any,.any,.any,.any,.any,.any,.bool y356,.bool false,.any,.any,.bool (a2.Seen==[]),junkB g357,.any,junkB g358,.bool false,.any,.any,.any,.any,.any,.any,.any,.any,.any,.any,.any,.any,.any,.any,.any,.any,.any,.any,.any,.any,.any,.any,.any,.any,.any,.any,.any,.any,.any,.any,.any,.any,.any,.any,.any,.any,.any,.any,.any,.any,.any,.any,.any]∧H=[.cells (cAffidavitref04_Ring a3),.cells (cReply a2)]∧r14_fifth_J2 a0 a1 a2 a3 y342=some r) (fun fr H ⟨g357,g358,e1,e2,hF⟩=>?_) (fun hJ2=>?_)
   ·subst e1 e2
    refine xs (xq (wh 3 (we (ng ?_))))
    refine ite_elim hF (fun hc3 hF=>?_) (fun hc3 hF=>?_)
    ·refine kT 53 hc3 (xT (xq (wh 1 (we (ng (xt (then_r ?_)))))))
     cases hF
     exact fS [0] (.inl rfl) rfl (st (tights_lows (low_cAffidavitref04_Ring _)) rfl shh_nil) ⟨rfl,rfl⟩
    refine kF 53 hc3 (xF (xk (ng (xq (wh 3 (bind_elim hF (fun y359 hy359 hF=>uC (r09_Count_ev hy359) (lows_cons rfl (lows_cons rfl rfl)) rfl (wh 5 (we (ng (xs (xq (wh 6 (bind_elim hF (fun y366 hy366 hF=>w_idx (by kernel_rfl) hy366 (wh 11 ?_))))))))))))))))
    refine ite_elim hF (fun hc4 hF=>?_) (fun hc4 hF=>?_)
    ·refine wT 68 hc4 (wh 28 (we (ng (xT (xq (wh 1 (we (ng (xt (then_r ?_))))))))))
     cases hF
     exact fS [0] (.inl rfl) rfl (st (tights_lows (low_cAffidavitref04_Ring _)) rfl shh_nil) ⟨rfl,rfl⟩
    refine wF 68 hc4 (wh 14 (bind_elim hF (fun y367 hy367 hF=>uC (r09_Goes_ev hy367) (lows_cons rfl (lows_cons rfl rfl)) rfl (wh 18 ?_))))
    refine ite_elim hF (fun hc5 hF=>?_) (fun hc5 hF=>?_)
    ·refine wF 75 (show (!y367)=false by rw [hc5]; rfl) (wh 23 ?_)
     refine ite_elim hF (fun hc6 hF=>?_) (fun hc6 hF=>?_)
     ·refine wT 80 hc6 (wh 28 (we (ng (xT (xq (wh 1 (we (ng (xt (then_r ?_))))))))))
      cases hF
      exact fS [0] (.inl rfl) rfl (st (tights_lows (low_cAffidavitref04_Ring _)) rfl shh_nil) ⟨rfl,rfl⟩
     refine wF 80 hc6 (wh 28 (we (ng ?_)))
     refine ite_elim hF (fun hc7 hF=>?_) (fun hc7 hF=>?_)
     ·refine kT 85 hc7 (xT (xq (wh 1 (we (ng (xt (then_r ?_)))))))
      cases hF
      exact fS [0] (.inl rfl) rfl (st (tights_lows (low_cAffidavitref04_Ring _)) rfl shh_nil) ⟨rfl,rfl⟩
     refine kF 85 hc7 (xF (xk (ng (xs (xq (wh 6 (bind_elim hF (fun y369 hy369 hF=>uOs [0] [0] (v:=.bool y369) [.cells (cAffidavitref04_Ring a3)] (r14_tagged_ev hy369) (tights_cons rfl (tights_cons rfl (tights_cons rfl (tights_cons rfl (tights_cons (tight_agg (tights_lows (low_cA _))) rfl))))) (pl (b':=.cells (cAffidavitref04_Ring a3)) (by kernel_rfl) (sb_cells (by kernel_rfl) (by kernel_rfl) (tights_lows (low_cAffidavitref04_Ring _))) pl_nil) rfl (sbs (sb_cells (by kernel_rfl) (by kernel_rfl) (tights_lows (low_cAffidavitref04_Ring _))) sbs_nil) (wh 8 (we (ng ?_)))))))))))
     refine ite_elim hF (fun hc8 hF=>?_) (fun hc8 hF=>?_)
     ·refine kF 93 (show (!y369)=false by rw [hc8]; rfl) (xF (xk (ng (xq (wh 1 (we (ng (xt ?_))))))))
      cases hF
      exact fS [0] (.inl rfl) rfl (st (tights_lows (low_cAffidavitref04_Ring _)) rfl shh_nil) ⟨rfl,rfl⟩
     refine kT 93 (show (!y369)=true by rw [hc8]; rfl) (xT (xq (wh 1 (we (ng (xt (then_r ?_)))))))
     cases hF
     exact fS [0] (.inl rfl) rfl (st (tights_lows (low_cAffidavitref04_Ring _)) rfl shh_nil) ⟨rfl,rfl⟩
    refine wT 75 (show (!y367)=true by rw [hc5]; rfl) (wh 28 (we (ng (xT (xq (wh 1 (we (ng (xt (then_r ?_))))))))))
    cases hF
    exact fS [0] (.inl rfl) rfl (st (tights_lows (low_cAffidavitref04_Ring _)) rfl shh_nil) ⟨rfl,rfl⟩
   refine xq (wh 4 ?_)
   refine ite_elim hF (fun hc9 hF=>?_) (fun hc9 hF=>?_)
   ·refine wT 47 hc9 (wh 7 (we (ng ?_)))
    refine ite_elim hF (fun hc10 hF=>?_) (fun hc10 hF=>?_)
    ·refine kT 50 hc10 (xT (xq (wh 1 (we (ng (xt (then_r ?_)))))))
     cases hF
     exact fS [0] (.inl rfl) rfl (st (tights_lows (low_cAffidavitref04_Ring _)) rfl shh_nil) ⟨rfl,rfl⟩
    exact kF 50 hc10 (xF (xk (then_n (x_to hJ2 (VS.sm 19807040628564874922925096312) ⟨(some true),(some (iGt y342 1)),rfl,rfl,hF⟩))))
   exact wF 47 hc9 (wh 7 (we (ng (xF (xk (then_n (x_to hJ2 (VS.sm 19807040628564874922925096312) ⟨(some false),none,rfl,rfl,hF⟩)))))))
  refine kT 43 (show (!y356)=true by rw [hc2]; rfl) (xT (xq (wh 1 (we (ng (xt (then_r ?_)))))))
  cases hF
  exact fS [0] (.inl rfl) rfl (st (tights_lows (low_cAffidavitref04_Ring _)) rfl shh_nil) ⟨rfl,rfl⟩
 refine xq (wh 5 ?_)
 refine ite_elim hF (fun hc11 hF=>?_) (fun hc11 hF=>?_)
 ·refine wT 18 hc11 (wh 18 (we (ng (xT (xq (wh 1 (we (ng (xt (then_r ?_))))))))))
  cases hF
  exact fS [0] (.inl rfl) rfl (st (tights_lows (low_cAffidavitref04_Ring _)) rfl shh_nil) ⟨rfl,rfl⟩
 refine wF 18 hc11 (wh 8 ?_)
 refine ite_elim hF (fun hc12 hF=>?_) (fun hc12 hF=>?_)
 ·refine wT 21 hc12 (wh 12 ?_)
  refine ite_elim hF (fun hc13 hF=>?_) (fun hc13 hF=>?_)
  ·refine wF 25 (show (!(a2.Value==[]))=false by rw [hc13]; rfl) (wh 18 (we (ng ?_)))
   refine ite_elim hF (fun hc14 hF=>?_) (fun hc14 hF=>?_)
   ·exact kF 31 (show (!(a2.Seen==[]))=false by rw [hc14]; rfl) (xF (xk (then_n (x_to hJ1 (VS.sm 19807040628566084396237061496) ⟨(some true),(some (!(a2.Value==[]))),(some false),(some (!(a2.Seen==[]))),(some (!(a2.Seen==[]))),(some (!(a2.Seen==[]))),rfl,rfl,hF⟩))))
   refine kT 31 (show (!(a2.Seen==[]))=true by rw [hc14]; rfl) (xT (xq (wh 1 (we (ng (xt (then_r ?_)))))))
   cases hF
   exact fS [0] (.inl rfl) rfl (st (tights_lows (low_cAffidavitref04_Ring _)) rfl shh_nil) ⟨rfl,rfl⟩
  refine wT 25 (show (!(a2.Value==[]))=true by rw [hc13]; rfl) (wh 18 (we (ng (xT (xq (wh 1 (we (ng (xt (then_r ?_))))))))))
  cases hF
  exact fS [0] (.inl rfl) rfl (st (tights_lows (low_cAffidavitref04_Ring _)) rfl shh_nil) ⟨rfl,rfl⟩
 exact wF 21 hc12 (wh 18 (we (ng (xF (xk (then_n (x_to hJ1 (VS.sm 19807040628566084396237061496) ⟨(some false),none,none,none,none,(some false),rfl,rfl,hF⟩)))))))
def r14_Check_J3 (a3 : Reply) (y193 : (List UInt8)) (p195 : Arr 32) (p200 : Int) (p201 : List UInt8) (p202 : List UInt8) (p203 : Arr 32) : Option (Got×Int) :=
  some ((⟨y193,p200,p201,a3.Last,a3.View,p195,p202,p203⟩ : Got),0)
def r14_Check_J2 (a2 : Submit) (a3 : Reply) (a4 : Affidavitref04_Ring) (p188 : List UInt8) (y193 : (List UInt8)) (p195 : Arr 32) : Option (Got×Int) :=
  if (a2.Kind==2)=true then (r14_fifth p188 a2.Target a3 a4).bind fun y204=>if (y204 != 0)=true then some ((⟨[],0,[],0,[],(Arr.zero 32),[],(Arr.zero 32)⟩ : Got),y204) else if (a3.Seen==[])=true then r14_Check_J3 a3 y193 p195 a3.ValueNumber a3.Value a3.Seen (Arr.zero 32) else r14_Check_J3 a3 y193 p195 a3.ValueNumber a3.Value a3.Seen a3.SeenTag else r14_Check_J3 a3 y193 p195 0 [] [] (Arr.zero 32)
def r14_Check_J1 (a0 : Int) (a2 : Submit) (a3 : Reply) (a4 : Affidavitref04_Ring) (p188 : List UInt8) : Option (Got×Int) :=
  if iGe (p188.length : Int) 512=true then some ((⟨[],0,[],0,[],(Arr.zero 32),[],(Arr.zero 32)⟩ : Got),11) else (r14_add p188 a0).bind fun y193=>if (a3.View==[])=true then r14_Check_J2 a2 a3 a4 p188 y193 (Arr.zero 32) else r14_Check_J2 a2 a3 a4 p188 y193 a3.Commit
def r14_Check_B231 (a0 : Int) (a2 : Submit) (a3 : Reply) (a4 : Affidavitref04_Ring) (k231 : ((List UInt8)×Int)→Option (Got×Int)) (x231 : (List UInt8)×Int) : Option (Got×Int) :=
  if iLt x231.2 (a3.Pending.l.length : Int)=true then (idxL a3.Pending.l x231.2).bind fun y237=>if (y237.Client==a0)=true then some ((⟨[],0,[],0,[],(Arr.zero 32),[],(Arr.zero 32)⟩ : Got),8) else (idxL a3.Pending.l x231.2).bind fun y238=>(r14_Step x231.1 y238 a4).bind fun y239=>if (y239.2 != 0)=true then some ((⟨[],0,[],0,[],(Arr.zero 32),[],(Arr.zero 32)⟩ : Got),y239.2) else k231 (y239.1,iAdd .i64 x231.2 1) else r14_Check_J1 a0 a2 a3 a4 x231.1
def r14_Check (a0 : Int) (a1 : List UInt8) (a2 : Submit) (a3 : Reply) (a4 : Affidavitref04_Ring) : Option (Got×Int) :=
  (r10_Right a0 a2 (⟨0,0,[],(Arr.zero 32),⟨true,true,[]⟩,0,[],(Arr.zero 32),[],(Arr.zero 32)⟩ : Reply) [] (Arr.zero 32) (Arr.zero 32) (⟨0,0,[],(Arr.zero 32)⟩ : Blob) (⟨true,true,[]⟩ : Sl Int)).bind fun y139=>if y139=true then (r10_Right_2 (⟨0,0,0,[],(Arr.zero 32),(Arr.zero 32)⟩ : Submit) a3 [] (Arr.zero 32) (Arr.zero 32) (⟨0,0,[],(Arr.zero 32)⟩ : Blob) (⟨true,true,[]⟩ : Sl Int)).bind fun y140=>if y140=true then (r14_is a0 a4).bind fun y141=>if y141=true then (r14_is a2.Target a4).bind fun y142=>if y142=true then (r09_Right a1 a4.N).bind fun y143=>if y143=true then (r09_Count a1 a0).bind fun y151=>if (a2.Number != iAdd .i64 y151 1)=true then some ((⟨[],0,[],0,[],(Arr.zero 32),[],(Arr.zero 32)⟩ : Got),2) else if (a3.Number != a2.Number)=true then some ((⟨[],0,[],0,[],(Arr.zero 32),[],(Arr.zero 32)⟩ : Got),2) else (r14_first a0 a1 a3 a4).bind fun y152=>if (y152 != 0)=true then some ((⟨[],0,[],0,[],(Arr.zero 32),[],(Arr.zero 32)⟩ : Got),y152) else loopN (r14_Check_B231 a0 a2 a3 a4) FUEL (a3.View,0) else some ((⟨[],0,[],0,[],(Arr.zero 32),[],(Arr.zero 32)⟩ : Got),2) else some ((⟨[],0,[],0,[],(Arr.zero 32),[],(Arr.zero 32)⟩ : Got),2) else some ((⟨[],0,[],0,[],(Arr.zero 32),[],(Arr.zero 32)⟩ : Got),2) else some ((⟨[],0,[],0,[],(Arr.zero 32),[],(Arr.zero 32)⟩ : Got),2) else some ((⟨[],0,[],0,[],(Arr.zero 32),[],(Arr.zero 32)⟩ : Got),2)
theorem r14_Check_ev {a0 : Int} {a1 : List UInt8} {a2 : Submit} {a3 : Reply} {a4 : Affidavitref04_Ring} {r : Got×Int} (hF : r14_Check a0 a1 a2 a3 a4=some r) : EvCall Tryz.prog T G0 16 [.ptr 0 0,.int .i64 a0,.str a1,.agg (cSubmit a2),.agg (cReply a3)] [.cells (cAffidavitref04_Ring a4)] (fun v H'=>v=.tup [.agg (cGot r.1),.int .i64 r.2]∧H'=[.cells (cAffidavitref04_Ring a4)]):=by
 refine xc Tryz.func16 ?_
 refine xq (wr 4 [.cells (cAffidavitref04_Ring a4),.cells (cSubmit a2),.cells (cReply a3),.cells (cGot (⟨[],0,[],0,[],(Arr.zero 32),[],(Arr.zero 32)⟩ : Got))] (we (ng (xs (xq (wh 3 (bind_elim hF (fun y139 hy139 hF=>uC (r10_Right_ev hy139) (lows_cons (low_agg (lows_app (lows_app (lows_app (lows_app (lows_app (lows_app (lows_app (lows_app (lows_app (low_cI _) (low_cI _)) (low_cSubmit _)) (low_cReply _)) (low_cS _)) (low_cI _)) (low_cA _)) (low_cA _)) (low_cBlob _)) ((low_cL low_cI) _))) rfl) rfl (wh 6 ?_)))))))))
 refine ite_elim hF (fun hc1 hF=>?_) (fun hc1 hF=>?_)
 ·refine wF 23 (show (!y139)=false by rw [hc1]; rfl) (wh 8 (bind_elim hF (fun y140 hy140 hF=>uC (r10_Right_2_ev hy140) (lows_cons (low_agg (lows_app (lows_app (lows_app (lows_app (lows_app (lows_app (lows_app (lows_app (lows_app (low_cI _) (low_cI _)) (low_cSubmit _)) (low_cReply _)) (low_cS _)) (low_cI _)) (low_cA _)) (low_cA _)) (low_cBlob _)) ((low_cL low_cI) _))) rfl) rfl (wh 12 ?_))))
  refine ite_elim hF (fun hc2 hF=>?_) (fun hc2 hF=>?_)
  ·refine wF 29 (show (!y140)=false by rw [hc2]; rfl) (wh 14 (bind_elim hF (fun y141 hy141 hF=>uOs [0] [0] (v:=.bool y141) [.cells (cAffidavitref04_Ring a4)] (r14_is_ev hy141) (by kernel_rfl) (pl (b':=.cells (cAffidavitref04_Ring a4)) (by kernel_rfl) (sb_cells (by kernel_rfl) (by kernel_rfl) (tights_lows (low_cAffidavitref04_Ring _))) pl_nil) rfl (sbs (sb_cells (by kernel_rfl) (by kernel_rfl) (tights_lows (low_cAffidavitref04_Ring _))) sbs_nil) (wh 18 ?_))))
   refine ite_elim hF (fun hc3 hF=>?_) (fun hc3 hF=>?_)
   ·refine wF 35 (show (!y141)=false by rw [hc3]; rfl) (wh 21 (bind_elim hF (fun y142 hy142 hF=>uOs [0] [0] (v:=.bool y142) [.cells (cAffidavitref04_Ring a4)] (r14_is_ev hy142) (by kernel_rfl) (pl (b':=.cells (cAffidavitref04_Ring a4)) (by kernel_rfl) (sb_cells (by kernel_rfl) (by kernel_rfl) (tights_lows (low_cAffidavitref04_Ring _))) pl_nil) rfl (sbs (sb_cells (by kernel_rfl) (by kernel_rfl) (tights_lows (low_cAffidavitref04_Ring _))) sbs_nil) (wh 25 ?_))))
    refine ite_elim hF (fun hc4 hF=>?_) (fun hc4 hF=>?_)
    ·refine wF 42 (show (!y142)=false by rw [hc4]; rfl) (wh 30 (bind_elim hF (fun y143 hy143 hF=>uC (r09_Right_ev hy143) (lows_cons rfl (lows_cons rfl rfl)) rfl (wh 33 (we (ng ?_))))))
     refine ite_elim hF (fun hc5 hF=>?_) (fun hc5 hF=>?_)
     ·refine kF 50 (show (!y143)=false by rw [hc5]; rfl) (xF (xk (ng (xs (xs (xd 0 call_ends callMono (wp 4 (bind_elim hF (fun y151 hy151 hF=>uC (r09_Count_ev hy151) (lows_cons rfl (lows_cons rfl rfl)) rfl (wp 8 ?_))))))))))
      refine ite_elim hF (fun hc6 hF=>?_) (fun hc6 hF=>?_)
      ·refine wT 59 hc6 (wp 14 (we (de (ng (xT (xq (wh 3 (we (ng (xt (then_r ?_)))))))))))
       cases hF
       exact fS [0] (.inl rfl) (tight_tup (tights_cons (tight_agg (tights_lows (low_cGot _))) (tights_cons rfl rfl))) (st (tights_lows (low_cAffidavitref04_Ring _)) rfl shh_nil) ⟨rfl,rfl⟩
      refine wF 59 hc6 (wp 14 (we (de (ng ?_))))
      refine ite_elim hF (fun hc7 hF=>?_) (fun hc7 hF=>?_)
      ·refine kT 65 hc7 (xT (xq (wh 3 (we (ng (xt (then_r ?_)))))))
       cases hF
       exact fS [0] (.inl rfl) (tight_tup (tights_cons (tight_agg (tights_lows (low_cGot _))) (tights_cons rfl rfl))) (st (tights_lows (low_cAffidavitref04_Ring _)) rfl shh_nil) ⟨rfl,rfl⟩
      refine kF 65 hc7 (xF (xk (ng (xq (wh 4 (bind_elim hF (fun y152 hy152 hF=>uOs [0] [0] (v:=.int .i64 y152) [.cells (cAffidavitref04_Ring a4)] (r14_first_ev hy152) (tights_cons rfl (tights_cons rfl (tights_cons rfl (tights_cons (tight_agg (tights_lows (low_cReply _))) rfl)))) (pl (b':=.cells (cAffidavitref04_Ring a4)) (by kernel_rfl) (sb_cells (by kernel_rfl) (by kernel_rfl) (tights_lows (low_cAffidavitref04_Ring _))) pl_nil) rfl (sbs (sb_cells (by kernel_rfl) (by kernel_rfl) (tights_lows (low_cAffidavitref04_Ring _))) sbs_nil) (wh 6 (we (ng (xs (xq (wh 2 (we (ng ?_)))))))))))))))
      refine ite_elim hF (fun hc8 hF=>?_) (fun hc8 hF=>?_)
      ·refine kT 73 hc8 (xT (xq (wh 4 (we (ng (xt (then_r ?_)))))))
       cases hF
       exact fS [0] (.inl rfl) (tight_tup (tights_cons (tight_agg (tights_lows (low_cGot _))) (tights_cons rfl rfl))) (st (tights_lows (low_cAffidavitref04_Ring _)) rfl shh_nil) ⟨rfl,rfl⟩
      refine kF 73 hc8 (xF (xk (ng (xq (wh 3 (we (ng ?_)))))))
      refine xj (fun fr H=>∃ (p188 : List UInt8) (g189 : Option Bool) (g190 : Option Bool),fr=[.ptr 0 0,.int .i64 a0,.any,.any,.any,.any,.any,.any,.ptr 1 0,.ptr 2 0,.ptr 3 0,.any,.any,.str p188,.any,.any,.any,.any,.any,.any,.any,.bool y139,.bool (!y139),.bool false,.any,.any,.bool y140,.bool (!y140),.bool (!y140),.bool false,.any,.any,.bool y141,.bool (!y141),.bool (!y141),.bool false,.any,.any,.any,.bool y142,.bool (!y142),.bool (!y142),.bool false,.any,.any,.any,.any,.any,.bool y143,.bool (!y143),.bool false,.any,.any,.any,.any,.any,.any,.any,.bool (a2.Number != iAdd .i64 y151 1),.bool false,.any,.any,.any,.any,.bool (a3.Number != a2.Number),.bool false,.any,.any,.any,.any,.any,.any,.any,.bool false,.any,.any,.any,.any,.any,.any,.any,.any,.bool false,.any,.any,.any,.any,.any,.any,.any,.any,.any,junkB g189,.any,.any,.any,.any,.any,.any,.any,.any,.any,.any,.any,.any,.any,junkB g190,.any,.any,.any,.any,.any,.any,.any,.any,.any,.any,.any,.any,.any,.any,.any,.any,.any,.any,.any,.any,.any,.any,.any,.any,.any,.any,.any,.any,.any,.any,.any,.any,.any,.any,.any,.any,.any,.any,.any,.any,.any,.any,.any,.any,.any,.any,.any,.any,.any,.any]∧H=[.cells (cAffidavitref04_Ring a4),.cells (cSubmit a2),.cells (cReply a3),.cells (cGot (⟨[],0,[],0,[],(Arr.zero 32),[],(Arr.zero 32)⟩ : Got))]∧r14_Check_J1 a0 a2 a3 a4 p188=some r) (fun fr H ⟨p188,g189,g190,e1,e2,hF⟩=>?_) (fun hJ1=>?_)
      ·subst e1 e2
       refine xs (xq (wh 3 (we (ng ?_))))
       refine ite_elim hF (fun hc9 hF=>?_) (fun hc9 hF=>?_)
       ·refine kT 112 hc9 (xT (xq (wh 3 (we (ng (xt (then_r ?_)))))))
        cases hF
        exact fS [0] (.inl rfl) (tight_tup (tights_cons (tight_agg (tights_lows (low_cGot _))) (tights_cons rfl rfl))) (st (tights_lows (low_cAffidavitref04_Ring _)) rfl shh_nil) ⟨rfl,rfl⟩
       refine kF 112 hc9 (xF (xk (ng (xs (x_rows 0 255 [⟨8,[],[0,1,3,4,5,6,7],[2],[2,4,6]⟩,⟨9,[],[],[],[]⟩] call_ends callMono (by kernel_rfl) (by kernel_rfl) (wp 2 (bind_elim hF (fun y193 hy193 hF=>uC (r14_add_ev hy193) (lows_cons rfl (lows_cons rfl rfl)) rfl (wp 8 (we (rows_next (wr 1 [.cells (cAffidavitref04_Ring a4),.cells (cSubmit a2),.cells (cReply a3),.cells (cGot (⟨[],0,[],0,[],(Arr.zero 32),[],(Arr.zero 32)⟩ : Got)),.cells (cGot (⟨[],0,[],0,[],(Arr.zero 32),[],(Arr.zero 32)⟩ : Got))] (we ?_)))))))))))))
       refine ⟨⟨(by kernel_rfl),⟨chkC1_call (r14_add_ev hy193) (lows_cons rfl (lows_cons rfl rfl)) rfl,chkC1_k (by kernel_rfl) (by kernel_rfl),chkC1_k (by kernel_rfl) (by kernel_rfl),trivial⟩⟩,(we (rows_next (wr 1 [.cells (cAffidavitref04_Ring a4),.cells (cSubmit a2),.cells (cReply a3),.cells (cGot (⟨[],0,[],0,[],(Arr.zero 32),[],(Arr.zero 32)⟩ : Got)),.cells (cGot (⟨y193,0,[],a3.Last,a3.View,(Arr.zero 32),[],(Arr.zero 32)⟩ : Got))] (we (⟨⟨(by kernel_rfl),trivial⟩,(we (rows_done (de (ng ?_))))⟩)))))⟩
       refine xj (fun fr H=>∃ (p195 : Arr 32) (g194 : Option Bool),fr=[.ptr 0 0,.any,.any,.any,.any,.any,.any,.any,.ptr 1 0,.ptr 2 0,.ptr 3 0,.any,.any,.str p188,.any,.any,.any,.ptr 4 0,.any,.any,.any,.bool y139,.bool (!y139),.bool false,.any,.any,.bool y140,.bool (!y140),.bool (!y140),.bool false,.any,.any,.bool y141,.bool (!y141),.bool (!y141),.bool false,.any,.any,.any,.bool y142,.bool (!y142),.bool (!y142),.bool false,.any,.any,.any,.any,.any,.bool y143,.bool (!y143),.bool false,.any,.any,.any,.any,.any,.any,.any,.bool (a2.Number != iAdd .i64 y151 1),.bool false,.any,.any,.any,.any,.bool (a3.Number != a2.Number),.bool false,.any,.any,.any,.any,.any,.any,.any,.bool false,.any,.any,.any,.any,.any,.any,.any,.any,.bool false,.any,.any,.any,.any,.any,.any,.any,.any,.any,junkB g189,.any,.any,.any,.any,.any,.any,.any,.any,.any,.any,.any,.any,.any,junkB g190,.any,.any,.any,.any,.any,.bool false,.any,.any,.any,.any,.any,.any,.any,.any,.any,.any,.any,junkB g194,.any,.any,.any,.any,.any,.any,.any,.any,.any,.any,.any,.any,.any,.any,.any,.any,.any,.any,.any,.any,.any,.any,.any,.any,.any,.any,.any,.any,.any,.any,.any,.any]∧H=[.cells (cAffidavitref04_Ring a4),.cells (cSubmit a2),.cells (cReply a3),.cells (cGot (⟨[],0,[],0,[],(Arr.zero 32),[],(Arr.zero 32)⟩ : Got)),.cells (cS y193++(cI .i64) 0++cS []++(cI .i64) a3.Last++cS a3.View++(cA .u8) p195++cS []++(cA .u8) (Arr.zero 32))]∧r14_Check_J2 a2 a3 a4 p188 y193 p195=some r) (fun fr H ⟨p195,g194,e1,e2,hF⟩=>?_) (fun hJ2=>?_)
       ·subst e1 e2
        refine xj (fun fr H=>∃ (p200 : Int) (p201 : List UInt8) (p202 : List UInt8) (p203 : Arr 32) (g197 : Option Bool) (g198 : Option Bool) (g199 : Option Bool),fr=[.any,.any,.any,.any,.any,.any,.any,.any,.any,.any,.ptr 1 0,.any,.any,.any,.any,.any,.any,.ptr 2 0,.any,.any,.any,.bool y139,.bool (!y139),.bool false,.any,.any,.bool y140,.bool (!y140),.bool (!y140),.bool false,.any,.any,.bool y141,.bool (!y141),.bool (!y141),.bool false,.any,.any,.any,.bool y142,.bool (!y142),.bool (!y142),.bool false,.any,.any,.any,.any,.any,.bool y143,.bool (!y143),.bool false,.any,.any,.any,.any,.any,.any,.any,.bool (a2.Number != iAdd .i64 y151 1),.bool false,.any,.any,.any,.any,.bool (a3.Number != a2.Number),.bool false,.any,.any,.any,.any,.any,.any,.any,.bool false,.any,.any,.any,.any,.any,.any,.any,.any,.bool false,.any,.any,.any,.any,.any,.any,.any,.any,.any,junkB g189,.any,.any,.any,.any,.any,.any,.any,.any,.any,.any,.any,.any,.any,junkB g190,.any,.any,.any,.any,.any,.bool false,.any,.any,.any,.any,.any,.any,.any,.any,.any,.any,.any,junkB g194,.any,.any,.any,.any,.any,junkB g197,.any,.any,.any,.any,.any,.any,.any,junkB g198,.any,.any,.any,.any,.any,.any,.any,.any,.any,.any,.any,.any,.any,junkB g199,.any,.any,.any,.any]∧H=[.cells (cAffidavitref04_Ring a4),.cells (cGot (⟨[],0,[],0,[],(Arr.zero 32),[],(Arr.zero 32)⟩ : Got)),.cells (cS y193++(cI .i64) p200++cS p201++(cI .i64) a3.Last++cS a3.View++(cA .u8) p195++cS p202++(cA .u8) p203)]∧r14_Check_J3 a3 y193 p195 p200 p201 p202 p203=some r) (fun fr H ⟨p200,p201,p202,p203,g197,g198,g199,e1,e2,hF⟩=>?_) (fun hJ3=>?_)
        ·subst e1 e2
         refine xq (wr 3 [.cells (cAffidavitref04_Ring a4),.cells (cGot (⟨y193,p200,p201,a3.Last,a3.View,p195,p202,p203⟩ : Got)),.cells (cS y193++(cI .i64) p200++cS p201++(cI .i64) a3.Last++cS a3.View++(cA .u8) p195++cS p202++(cA .u8) p203)] (we (ng (xt ?_))))
         cases hF
         exact fS [0] (.inl rfl) (tight_tup (tights_cons (tight_agg (tights_lows (low_cGot _))) (tights_cons rfl rfl))) (st (tights_lows (low_cAffidavitref04_Ring _)) rfl shh_nil) ⟨rfl,rfl⟩
        refine xq (wh 3 (we (ng ?_)))
        refine ite_elim hF (fun hc10 hF=>?_) (fun hc10 hF=>?_)
        ·refine kT 130 hc10 (xT (xq (wh 5 (bind_elim hF (fun y204 hy204 hF=>uOs [0] [0] (v:=.int .i64 y204) [.cells (cAffidavitref04_Ring a4)] (r14_fifth_ev hy204) (tights_cons rfl (tights_cons rfl (tights_cons rfl (tights_cons (tight_agg (tights_lows (low_cReply _))) rfl)))) (pl (b':=.cells (cAffidavitref04_Ring a4)) (by kernel_rfl) (sb_cells (by kernel_rfl) (by kernel_rfl) (tights_lows (low_cAffidavitref04_Ring _))) pl_nil) rfl (sbs (sb_cells (by kernel_rfl) (by kernel_rfl) (tights_lows (low_cAffidavitref04_Ring _))) sbs_nil) (wh 7 (we (ng (xs (xq (wh 2 (we (ng ?_)))))))))))))
         refine ite_elim hF (fun hc11 hF=>?_) (fun hc11 hF=>?_)
         ·refine kT 138 hc11 (xT (xq (wh 4 (we (ng (xt (then_r (then_r ?_))))))))
          cases hF
          exact fS [0] (.inl rfl) (tight_tup (tights_cons (tight_agg (tights_lows (low_cGot _))) (tights_cons rfl rfl))) (st (tights_lows (low_cAffidavitref04_Ring _)) rfl shh_nil) ⟨rfl,rfl⟩
         refine kF 138 hc11 (xF (xk (ng (xq (wr 4 [.cells (cAffidavitref04_Ring a4),.cells (cSubmit a2),.cells (cReply a3),.cells (cGot (⟨[],0,[],0,[],(Arr.zero 32),[],(Arr.zero 32)⟩ : Got)),.cells (cS y193++(cI .i64) a3.ValueNumber++cS []++(cI .i64) a3.Last++cS a3.View++(cA .u8) p195++cS []++(cA .u8) (Arr.zero 32))] (we (ng (xq (wr 4 [.cells (cAffidavitref04_Ring a4),.cells (cSubmit a2),.cells (cReply a3),.cells (cGot (⟨[],0,[],0,[],(Arr.zero 32),[],(Arr.zero 32)⟩ : Got)),.cells (cS y193++(cI .i64) a3.ValueNumber++cS a3.Value++(cI .i64) a3.Last++cS a3.View++(cA .u8) p195++cS []++(cA .u8) (Arr.zero 32))] (we (ng (xq (wr 4 [.cells (cAffidavitref04_Ring a4),.cells (cSubmit a2),.cells (cReply a3),.cells (cGot (⟨[],0,[],0,[],(Arr.zero 32),[],(Arr.zero 32)⟩ : Got)),.cells (cS y193++(cI .i64) a3.ValueNumber++cS a3.Value++(cI .i64) a3.Last++cS a3.View++(cA .u8) p195++cS a3.Seen++(cA .u8) (Arr.zero 32))] (we (ng (xq (wh 3 (we (ng ?_)))))))))))))))))))
         refine ite_elim hF (fun hc12 hF=>?_) (fun hc12 hF=>?_)
         ·exact kF 152 (show (!(a3.Seen==[]))=false by rw [hc12]; rfl) (xF (xk (then_n (x_to hJ3 (VS.shX [0,3,4] 182687704645089943411448395327404390865382013951 [92,106,124] (by kernel_rfl) (by kernel_rfl) (by kernel_rfl) (by exact ⟨low_junk g189,low_junk g190,low_junk g194,trivial⟩) (tights_at [92,106,124] (by kernel_rfl) (by exact ⟨(tight_junk g189),(tight_junk g190),(tight_junk g194),trivial⟩)) (st (tights_lows (low_cAffidavitref04_Ring _)) rfl (sk rfl (sk rfl shh_nil)))) ⟨a3.ValueNumber,a3.Value,a3.Seen,(Arr.zero 32),(some true),(some false),(some false),rfl,rfl,hF⟩))))
         exact kT 152 (show (!(a3.Seen==[]))=true by rw [hc12]; rfl) (xT (xr (wr 4 [.cells (cAffidavitref04_Ring a4),.cells (cSubmit a2),.cells (cReply a3),.cells (cGot (⟨[],0,[],0,[],(Arr.zero 32),[],(Arr.zero 32)⟩ : Got)),.cells (cS y193++(cI .i64) a3.ValueNumber++cS a3.Value++(cI .i64) a3.Last++cS a3.View++(cA .u8) p195++cS a3.Seen++(cA .u8) a3.SeenTag)] (we (then_n (x_to hJ3 (VS.shX [0,3,4] 182687704645089943411448395327404390865382013951 [92,106,124] (by kernel_rfl) (by kernel_rfl) (by kernel_rfl) (by exact ⟨low_junk g189,low_junk g190,low_junk g194,trivial⟩) (tights_at [92,106,124] (by kernel_rfl) (by exact ⟨(tight_junk g189),(tight_junk g190),(tight_junk g194),trivial⟩)) (st (tights_lows (low_cAffidavitref04_Ring _)) rfl (sk rfl (sk rfl shh_nil)))) ⟨a3.ValueNumber,a3.Value,a3.Seen,a3.SeenTag,(some true),(some false),(some true),rfl,rfl,hF⟩))))))
        exact kF 130 hc10 (xF (xk (then_n (x_to hJ3 (VS.shX [0,3,4] 182687704645089943411448395327404390865382013951 [92,106,124] (by kernel_rfl) (by kernel_rfl) (by kernel_rfl) (by exact ⟨low_junk g189,low_junk g190,low_junk g194,trivial⟩) (tights_at [92,106,124] (by kernel_rfl) (by exact ⟨(tight_junk g189),(tight_junk g190),(tight_junk g194),trivial⟩)) (st (tights_lows (low_cAffidavitref04_Ring _)) rfl (sk rfl (sk rfl shh_nil)))) ⟨0,[],[],(Arr.zero 32),(some false),none,none,rfl,rfl,hF⟩))))
       refine xq (wh 3 (we (ng ?_)))
       refine ite_elim hF (fun hc13 hF=>?_) (fun hc13 hF=>?_)
       ·exact kF 124 (show (!(a3.View==[]))=false by rw [hc13]; rfl) (xF (xk (then_n (x_to hJ2 (VS.sm 182687704666357591344007049293865303829867518206) ⟨(Arr.zero 32),(some false),rfl,rfl,hF⟩))))
       exact kT 124 (show (!(a3.View==[]))=true by rw [hc13]; rfl) (xT (xr (wr 4 [.cells (cAffidavitref04_Ring a4),.cells (cSubmit a2),.cells (cReply a3),.cells (cGot (⟨[],0,[],0,[],(Arr.zero 32),[],(Arr.zero 32)⟩ : Got)),.cells (cS y193++(cI .i64) 0++cS []++(cI .i64) a3.Last++cS a3.View++(cA .u8) a3.Commit++cS []++(cA .u8) (Arr.zero 32))] (we (then_n (x_to hJ2 (VS.sm 182687704666357591344007049293865303829867518206) ⟨a3.Commit,(some true),rfl,rfl,hF⟩))))))
      refine xq (wh 1 (we (ng (xb (x_loop (fun d fr H=>∃ (x231 : (List UInt8)×Int) (g215 : Option Bool) (g216 : Option Bool) (g217 : Option Bool),fr=[.ptr 0 0,.int .i64 a0,.any,.any,.any,.any,.any,.any,.ptr 1 0,.ptr 2 0,.ptr 3 0,.any,.any,.str x231.1,.int .i64 x231.2,.any,.any,.any,.any,.any,.any,.bool y139,.bool (!y139),.bool false,.any,.any,.bool y140,.bool (!y140),.bool (!y140),.bool false,.any,.any,.bool y141,.bool (!y141),.bool (!y141),.bool false,.any,.any,.any,.bool y142,.bool (!y142),.bool (!y142),.bool false,.any,.any,.any,.any,.any,.bool y143,.bool (!y143),.bool false,.any,.any,.any,.any,.any,.any,.any,.bool (a2.Number != iAdd .i64 y151 1),.bool false,.any,.any,.any,.any,.bool (a3.Number != a2.Number),.bool false,.any,.any,.any,.any,.any,.any,.any,.bool false,.any,.any,.any,.any,.any,.any,.any,.any,junkB g215,.any,.any,.any,.any,.any,.any,.any,.any,.any,junkB g216,.any,.any,.any,.any,.any,.any,.any,.any,.any,.any,.any,.any,.any,junkB g217,.any,.any,.any,.any,.any,.any,.any,.any,.any,.any,.any,.any,.any,.any,.any,.any,.any,.any,.any,.any,.any,.any,.any,.any,.any,.any,.any,.any,.any,.any,.any,.any,.any,.any,.any,.any,.any,.any,.any,.any,.any,.any,.any,.any,.any,.any,.any,.any,.any,.any]∧H=[.cells (cAffidavitref04_Ring a4),.cells (cSubmit a2),.cells (cReply a3),.cells (cGot (⟨[],0,[],0,[],(Arr.zero 32),[],(Arr.zero 32)⟩ : Got))]∧loopN (r14_Check_B231 a0 a2 a3 a4) d x231=some r) (by kernel_rfl) (fun fr H ⟨x231,g215,g216,g217,e1,e2,hF⟩=>loop_no hF) (fun d231 fr H ⟨x231,g215,g216,g217,e1,e2,hF⟩=>?_) (VS.sm 182687704666362864775460594588595509731497318652) ⟨(a3.View,0),none,none,none,rfl,rfl,hF⟩)))))
      subst e1 e2
      have hF:=loop_in hF
      refine xs (xq (wh 5 (we (ng ?_))))
      refine ite_elim hF (fun hc14 hF=>?_) (fun hc14 hF=>?_)
      ·refine kT 82 hc14 (xT (xk (ng (xs (xb (xs (xq (wh 3 (bind_elim hF (fun y237 hy237 hF=>uI cPending 68 hy237 len_cPending (wh 5 (uE cPending 0 (t:=3) (v:=.int .i64 y237.Client) 68 1 hy237 len_cPending (wh 8 (we (ng ?_)))))))))))))))
       refine ite_elim hF (fun hc15 hF=>?_) (fun hc15 hF=>?_)
       ·refine kT 92 hc15 (xT (xq (wh 3 (we (ng (xt (then_r (block_r (then_r (then_r (block_r (then_r ?_))))))))))))
        cases hF
        exact fS [0] (.inl rfl) (tight_tup (tights_cons (tight_agg (tights_lows (low_cGot _))) (tights_cons rfl rfl))) (st (tights_lows (low_cAffidavitref04_Ring _)) rfl shh_nil) ⟨rfl,rfl⟩
       refine kF 92 hc15 (xF (xk (ng (xq (wh 5 (bind_elim hF (fun y238 hy238 hF=>uI cPending 68 hy238 len_cPending (uE cPending 0 (t:=46) (v:=.agg (cPending y238)) 68 68 hy238 len_cPending (bind_elim hF (fun y239 hy239 hF=>uOs [0] [0] (v:=.tup [.str y239.1,.int .i64 y239.2]) [.cells (cAffidavitref04_Ring a4)] (r14_Step_ev hy239) (tights_cons rfl (tights_cons rfl (tights_cons (tight_agg (tights_lows (low_cPending _))) rfl))) (pl (b':=.cells (cAffidavitref04_Ring a4)) (by kernel_rfl) (sb_cells (by kernel_rfl) (by kernel_rfl) (tights_lows (low_cAffidavitref04_Ring _))) pl_nil) rfl (sbs (sb_cells (by kernel_rfl) (by kernel_rfl) (tights_lows (low_cAffidavitref04_Ring _))) sbs_nil) (wh 13 (we (ng (xs (xq (wh 2 (we (ng ?_))))))))))))))))))
       refine ite_elim hF (fun hc16 hF=>?_) (fun hc16 hF=>?_)
       ·refine kT 106 hc16 (xT (xq (wh 4 (we (ng (xt (then_r (block_r (then_r (then_r (block_r (then_r ?_))))))))))))
        cases hF
        exact fS [0] (.inl rfl) (tight_tup (tights_cons (tight_agg (tights_lows (low_cGot _))) (tights_cons rfl rfl))) (st (tights_lows (low_cAffidavitref04_Ring _)) rfl shh_nil) ⟨rfl,rfl⟩
       exact kF 106 hc16 (xF (xk (ng (xr (wh 2 (we (block_n (ng (xr (wh 3 (we (then_n (x_back (VS.sm 182687704666362864775460594588595509731497318652) ⟨(y239.1,iAdd .i64 x231.2 1),(some true),(some false),(some false),rfl,rfl,hF⟩)))))))))))))
      exact kF 82 hc14 (xF (xe (then_e (then_e (block_e (then_n (x_to hJ1 (VS.sm 182687704666362783640865584121493834326196869372) ⟨x231.1,g216,g217,rfl,rfl,hF⟩)))))))
     refine kT 50 (show (!y143)=true by rw [hc5]; rfl) (xT (xq (wh 3 (we (ng (xt (then_r ?_)))))))
     cases hF
     exact fS [0] (.inl rfl) (tight_tup (tights_cons (tight_agg (tights_lows (low_cGot _))) (tights_cons rfl rfl))) (st (tights_lows (low_cAffidavitref04_Ring _)) rfl shh_nil) ⟨rfl,rfl⟩
    refine wT 42 (show (!y142)=true by rw [hc4]; rfl) (wh 33 (we (ng (xT (xq (wh 3 (we (ng (xt (then_r ?_))))))))))
    cases hF
    exact fS [0] (.inl rfl) (tight_tup (tights_cons (tight_agg (tights_lows (low_cGot _))) (tights_cons rfl rfl))) (st (tights_lows (low_cAffidavitref04_Ring _)) rfl shh_nil) ⟨rfl,rfl⟩
   refine wT 35 (show (!y141)=true by rw [hc3]; rfl) (wh 33 (we (ng (xT (xq (wh 3 (we (ng (xt (then_r ?_))))))))))
   cases hF
   exact fS [0] (.inl rfl) (tight_tup (tights_cons (tight_agg (tights_lows (low_cGot _))) (tights_cons rfl rfl))) (st (tights_lows (low_cAffidavitref04_Ring _)) rfl shh_nil) ⟨rfl,rfl⟩
  refine wT 29 (show (!y140)=true by rw [hc2]; rfl) (wh 33 (we (ng (xT (xq (wh 3 (we (ng (xt (then_r ?_))))))))))
  cases hF
  exact fS [0] (.inl rfl) (tight_tup (tights_cons (tight_agg (tights_lows (low_cGot _))) (tights_cons rfl rfl))) (st (tights_lows (low_cAffidavitref04_Ring _)) rfl shh_nil) ⟨rfl,rfl⟩
 refine wT 23 (show (!y139)=true by rw [hc1]; rfl) (wh 33 (we (ng (xT (xq (wh 3 (we (ng (xt (then_r ?_))))))))))
 cases hF
 exact fS [0] (.inl rfl) (tight_tup (tights_cons (tight_agg (tights_lows (low_cGot _))) (tights_cons rfl rfl))) (st (tights_lows (low_cAffidavitref04_Ring _)) rfl shh_nil) ⟨rfl,rfl⟩
def l14_VerifyChecks_J1 (p35 : Bool) : Option Bool :=
  some p35
def l14_VerifyChecks (a0 : Affidavitlaw14_Case) : Option Bool :=
  (ring_New).bind fun y17=>(r04_New).bind fun y18=>(awakeF).bind fun y28=>if y28=true then if iGt (a0.View.length : Int) 600=true then (awakeF).bind fun y30=>some y30 else if iGt (a0.Y.Pending.l.length : Int) 12=true then (awakeF).bind fun y32=>some y32 else (verify_Check a0.Me a0.View a0.X a0.Y y17.1 y17.2.1 y17.2.2).bind fun y33=>(r14_Check a0.Me a0.View a0.X a0.Y y18).bind fun y34=>if eqGot y33.1 y34.1=true then l14_VerifyChecks_J1 (y33.2==y34.2) else l14_VerifyChecks_J1 false else (awakeF).bind fun y40=>some y40
theorem l14_VerifyChecks_ev {a0 : Affidavitlaw14_Case} {r : Bool} (hF : l14_VerifyChecks a0=some r) : EvCall Tryz.prog T G0 3 [.agg (cAffidavitlaw14_Case a0)] [] (fun v H'=>v=.bool r∧H'=[]):=by
 refine xc Tryz.func3 ?_
 refine xq (wr 2 [.cells (cAffidavitlaw14_Case a0)] (we (ng (xq (bind_elim hF (fun y17 hy17 hF=>uO [] [1,2,3] (v:=.tup [.ptr 1 0,.int .i64 0]) [.cells (cS y17.1++[rfv false y17.2.1 2 1]++[.map 3]),rfb cS y17.2.1,mpb (fun a=>AV.agg (cRing_tagged a)) (AV.int .i64) y17.2.2] [.cells (cAffidavitlaw14_Case a0),.cells (cS y17.1++[rfv false y17.2.1 2 1]++[.map 3]),rfb cS y17.2.1,mpb (fun a=>AV.agg (cRing_tagged a)) (AV.int .i64) y17.2.2] (ring_New_ev hy17) (by kernel_rfl) pl_nil rfl (sbs (sb_cells (by kernel_rfl) (by kernel_rfl) (by kernel_rfl)) (sbs (sb_low (noref_rfb low_cS _)) (sbs (sb_low (noref_mpb (fun _=>low_agg (low_cRing_tagged _)) (fun _=>rfl) _)) sbs_nil))) (wh 6 (we (ng (xq (bind_elim hF (fun y18 hy18 hF=>uO [] [4] (v:=.tup [.ptr 4 0,.int .i64 0]) [.cells (cAffidavitref04_Ring y18)] [.cells (cAffidavitlaw14_Case a0),.cells (cS y17.1++[rfv false y17.2.1 2 1]++[.map 3]),rfb cS y17.2.1,mpb (fun a=>AV.agg (cRing_tagged a)) (AV.int .i64) y17.2.2,.cells (cAffidavitref04_Ring y18)] (r04_New_ev hy18) (by kernel_rfl) pl_nil rfl (sbs (sb_cells (by kernel_rfl) (by kernel_rfl) (tights_lows (low_cAffidavitref04_Ring _))) sbs_nil) (wh 6 (we (ng (xs (xq (wh 7 (bind_elim hF (fun y28 hy28 hF=>uC (awakeF_ev hy28) rfl rfl (wh 11 ?_)))))))))))))))))))))
 refine ite_elim hF (fun hc1 hF=>?_) (fun hc1 hF=>?_)
 ·refine wF 29 (show (!y28)=false by rw [hc1]; rfl) (wh 17 ?_)
  refine ite_elim hF (fun hc2 hF=>?_) (fun hc2 hF=>?_)
  ·refine wT 35 hc2 (wh 23 (we (ng (xT (xq (wh 3 (bind_elim hF (fun y30 hy30 hF=>uC (awakeF_ev hy30) rfl rfl (wh 6 (we (ng (xt (then_r ?_)))))))))))))
   cases hF
   exact fE [] (.inl rfl) rfl ⟨rfl,rfl⟩
  refine wF 35 hc2 (wh 23 (we (ng ?_)))
  refine ite_elim hF (fun hc3 hF=>?_) (fun hc3 hF=>?_)
  ·refine kT 41 hc3 (xT (xq (wh 3 (bind_elim hF (fun y32 hy32 hF=>uC (awakeF_ev hy32) rfl rfl (wh 6 (we (ng (xt (then_r ?_))))))))))
   cases hF
   exact fE [] (.inl rfl) rfl ⟨rfl,rfl⟩
  refine kF 41 hc3 (xF (xk (ng (xq (wh 9 (bind_elim hF (fun y33 hy33 hF=>uOs [1,2,3] [1,2,3] (v:=.tup [.agg (cGot y33.1),.int .i64 y33.2]) [.cells (cS y17.1++[rfv false y17.2.1 2 1]++[.map 3]),rfb cS y17.2.1,mpb (fun a=>AV.agg (cRing_tagged a)) (AV.int .i64) y17.2.2] (verify_Check_ev hy33) (tights_cons rfl (tights_cons rfl (tights_cons rfl (tights_cons (tight_agg (tights_lows (low_cSubmit _))) (tights_cons (tight_agg (tights_lows (low_cReply _))) rfl))))) (pl (b':=.cells (cS y17.1++[rfv false y17.2.1 2 1]++[.map 3])) (by kernel_rfl) (sb_cells (by kernel_rfl) (by kernel_rfl) (by kernel_rfl)) (pl (b':=rfb cS y17.2.1) (by kernel_rfl) (sb_low (noref_rfb low_cS _)) (pl (b':=mpb (fun a=>AV.agg (cRing_tagged a)) (AV.int .i64) y17.2.2) (by kernel_rfl) (sb_low (noref_mpb (fun _=>low_agg (low_cRing_tagged _)) (fun _=>rfl) _)) pl_nil))) (tight_tup (tights_cons (tight_agg (tights_lows (low_cGot _))) (tights_cons rfl rfl))) (sbs (sb_cells (by kernel_rfl) (by kernel_rfl) (by kernel_rfl)) (sbs (sb_low (noref_rfb low_cS _)) (sbs (sb_low (noref_mpb (fun _=>low_agg (low_cRing_tagged _)) (fun _=>rfl) _)) sbs_nil))) (wr 16 [.cells (cAffidavitlaw14_Case a0),.cells (cS y17.1++[rfv false y17.2.1 2 1]++[.map 3]),rfb cS y17.2.1,mpb (fun a=>AV.agg (cRing_tagged a)) (AV.int .i64) y17.2.2,.cells (cAffidavitref04_Ring y18),.cells (cGot y33.1)] (we (ng (xq (wh 9 (bind_elim hF (fun y34 hy34 hF=>uOs [4] [4] (v:=.tup [.agg (cGot y34.1),.int .i64 y34.2]) [.cells (cAffidavitref04_Ring y18)] (r14_Check_ev hy34) (tights_cons rfl (tights_cons rfl (tights_cons rfl (tights_cons (tight_agg (tights_lows (low_cSubmit _))) (tights_cons (tight_agg (tights_lows (low_cReply _))) rfl))))) (pl (b':=.cells (cAffidavitref04_Ring y18)) (by kernel_rfl) (sb_cells (by kernel_rfl) (by kernel_rfl) (tights_lows (low_cAffidavitref04_Ring _))) pl_nil) (tight_tup (tights_cons (tight_agg (tights_lows (low_cGot _))) (tights_cons rfl rfl))) (sbs (sb_cells (by kernel_rfl) (by kernel_rfl) (tights_lows (low_cAffidavitref04_Ring _))) sbs_nil) (wr 16 [.cells (cAffidavitlaw14_Case a0),.cells (cS y17.1++[rfv false y17.2.1 2 1]++[.map 3]),rfb cS y17.2.1,mpb (fun a=>AV.agg (cRing_tagged a)) (AV.int .i64) y17.2.2,.cells (cAffidavitref04_Ring y18),.cells (cGot y33.1),.cells (cGot y34.1)] (we (ng ?_)))))))))))))))))
  refine xj (fun fr H=>∃ (p35 : Bool) (g36 : Option Bool) (g37 : Option Bool) (g38 : Option Bool),fr=[.any,.any,.bool p35,.any,.any,.any,.any,.any,.any,.any,.any,.any,.any,.any,.any,.any,.any,.any,.any,.any,.bool false,.bool false,.any,.bool false,.bool false,.bool false,.bool y28,.bool (!y28),.bool (!y28),.bool false,.any,.any,.any,.bool (iGt (a0.View.length : Int) 600),.bool (iGt (a0.View.length : Int) 600),.bool false,.any,.any,.any,.any,.bool (iGt (a0.Y.Pending.l.length : Int) 12),.bool false,.any,.any,.any,.any,.any,.any,.any,.any,.any,.any,.any,.any,.any,.any,.any,.any,.any,.any,.any,.any,.any,.any,.any,.any,.any,.any,.any,.any,.any,.any,.any,.any,.any,.bool (eqGot y33.1 y34.1),junkB g36,.any,.any,junkB g37,junkB g38]∧H=[]∧l14_VerifyChecks_J1 p35=some r) (fun fr H ⟨p35,g36,g37,g38,e1,e2,hF⟩=>?_) (fun hJ1=>?_)
  ·subst e1 e2
   refine xt ?_
   cases hF
   exact fE [] (.inl rfl) rfl ⟨rfl,rfl⟩
  refine xr (wh 2 (w_eql (b:=eqGot y33.1 y34.1) (by kernel_rfl) (wh 4 ?_)))
  refine ite_elim hF (fun hc4 hF=>?_) (fun hc4 hF=>?_)
  ·exact wT 76 hc4 (wh 9 (we (then_n (x_to hJ1 (VS.si [] 2380072707362941454778363 (by kernel_rfl) shh_nil) ⟨(y33.2==y34.2),(some true),(some (y33.2==y34.2)),(some (y33.2==y34.2)),rfl,rfl,hF⟩))))
  exact wF 76 hc4 (wh 9 (we (then_n (x_to hJ1 (VS.si [] 2380072707362941454778363 (by kernel_rfl) shh_nil) ⟨false,(some false),none,(some false),rfl,rfl,hF⟩))))
 refine wT 29 (show (!y28)=true by rw [hc1]; rfl) (wh 23 (we (ng (xT (xq (wh 3 (bind_elim hF (fun y40 hy40 hF=>uC (awakeF_ev hy40) rfl rfl (wh 6 (we (ng (xt (then_r ?_)))))))))))))
 cases hF
 exact fE [] (.inl rfl) rfl ⟨rfl,rfl⟩
end Go.Proofs.YthejafdkimbddaaGreatDoor
