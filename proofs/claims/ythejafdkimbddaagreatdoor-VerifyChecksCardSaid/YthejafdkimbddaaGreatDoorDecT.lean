/- What each function of these laws comes to. Printed by main.py; no conditions. -/
import Derived.Test.YthejafdkimbddaaGreatDoorTab
import Derived.Test.YthejafdkimbddaaGreatDoorAbnC
import Derived.Test.YthejafdkimbddaaGreatDoorCnv
namespace Go.Proofs.YthejafdkimbddaaGreatDoor
open Go.Abs
set_option maxRecDepth 100000
attribute [local irreducible] ev evAt evW evList evOp evRes EvCall VS aop aload astore AX.then AX.inBlock kRun kRunQ aput evRows
set_option linter.unusedVariables false
structure Pending where
  Client : Int
  Number : Int
  Kind : Int
  Target : Int
  Asked : Arr 32
  Proof : Arr 32
def cPending (x : Pending) : List AV:=(cI .i64) x.Client++(cI .i64) x.Number++(cI .i64) x.Kind++(cI .i64) x.Target++(cA .u8) x.Asked++(cA .u8) x.Proof
def eqPending (a b : Pending) : Bool:=((a.Client==b.Client)&&((a.Number==b.Number)&&((a.Kind==b.Kind)&&((a.Target==b.Target)&&(eqA a.Asked b.Asked&&(eqA a.Proof b.Proof&&true))))))
theorem low_cPending {n : Nat} (x : Pending) : lows n (cPending x)=true:=(lows_app (lows_app (lows_app (lows_app (lows_app (low_cI _) (low_cI _)) (low_cI _)) (low_cI _)) (low_cA _)) (low_cA _))
theorem len_cPending (x : Pending) : (cPending x).length=68:=by kernel_rfl
structure Ring_tagged where
  client : Int
  domain : Int
  text : List UInt8
def cRing_tagged (x : Ring_tagged) : List AV:=(cI .i64) x.client++(cI .i64) x.domain++cS x.text
def eqRing_tagged (a b : Ring_tagged) : Bool:=((a.client==b.client)&&((a.domain==b.domain)&&((a.text==b.text)&&true)))
instance : BEq Ring_tagged:=⟨eqRing_tagged⟩
theorem low_cRing_tagged {n : Nat} (x : Ring_tagged) : lows n (cRing_tagged x)=true:=(lows_app (lows_app (low_cI _) (low_cI _)) (low_cS _))
structure Sum_Sum256 where
  state : Arr 8
  part : Arr 64
  many : Int
def cSum_Sum256 (x : Sum_Sum256) : List AV:=(cA .u32) x.state++(cA .u8) x.part++(cI .i64) x.many
structure Affidavitref04_Line where
  Client : Int
  Domain : Int
  Text : List UInt8
def cAffidavitref04_Line (x : Affidavitref04_Line) : List AV:=(cI .i64) x.Client++(cI .i64) x.Domain++cS x.Text
theorem low_cAffidavitref04_Line {n : Nat} (x : Affidavitref04_Line) : lows n (cAffidavitref04_Line x)=true:=(lows_app (lows_app (low_cI _) (low_cI _)) (low_cS _))
structure Affidavitref04_Ring where
  Seed : List UInt8
  N : Int
  Book : Sl Affidavitref04_Line
def cAffidavitref04_Ring (x : Affidavitref04_Ring) : List AV:=cS x.Seed++(cI .i64) x.N++(cL cAffidavitref04_Line) x.Book
theorem low_cAffidavitref04_Ring {n : Nat} (x : Affidavitref04_Ring) : lows n (cAffidavitref04_Ring x)=true:=(lows_app (lows_app (low_cS _) (low_cI _)) ((low_cL low_cAffidavitref04_Line) _))
structure Submit where
  Number : Int
  Kind : Int
  Target : Int
  Value : List UInt8
  Asked : Arr 32
  Data : Arr 32
def cSubmit (x : Submit) : List AV:=(cI .i64) x.Number++(cI .i64) x.Kind++(cI .i64) x.Target++cS x.Value++(cA .u8) x.Asked++(cA .u8) x.Data
def eqSubmit (a b : Submit) : Bool:=((a.Number==b.Number)&&((a.Kind==b.Kind)&&((a.Target==b.Target)&&((a.Value==b.Value)&&(eqA a.Asked b.Asked&&(eqA a.Data b.Data&&true))))))
theorem low_cSubmit {n : Nat} (x : Submit) : lows n (cSubmit x)=true:=(lows_app (lows_app (lows_app (lows_app (lows_app (low_cI _) (low_cI _)) (low_cI _)) (low_cS _)) (low_cA _)) (low_cA _))
structure Msg_writer where
  b : Sl Int
def cMsg_writer (x : Msg_writer) : List AV:=(cL (cI .u8)) x.b
structure Verify_tag where
  client : Int
  domain : Int
  text : List UInt8
  tag : Arr 32
def cVerify_tag (x : Verify_tag) : List AV:=(cI .i64) x.client++(cI .i64) x.domain++cS x.text++(cA .u8) x.tag
theorem low_cVerify_tag {n : Nat} (x : Verify_tag) : lows n (cVerify_tag x)=true:=(lows_app (lows_app (lows_app (low_cI _) (low_cI _)) (low_cS _)) (low_cA _))
def lay_digits_J1 (a2 : Int) (g2 : Nat) (p3 : Sl Int) (g5 : Bool) : Option ((Sl Int)×Nat×Bool) :=
  (appL 1 p3 (⟨false,true,[IntKind.wrap .u8 (iAdd .u64 48 (iRem a2 10))]⟩ : Sl Int).l).bind fun y6=>some (y6,(g2+1),(g5 || !((⟨false,true,[IntKind.wrap .u8 (iAdd .u64 48 (iRem a2 10))]⟩ : Sl Int).l.length==0)))
def lay_digits_R (rc : (Bool×(List Int)×Int)→Option ((Sl Int)×Nat×Bool)) (a0 : Bool) (a1 : List Int) (a2 : Int) : Option ((Sl Int)×Nat×Bool) :=
  if iGe a2 10=true then (rc (a0,a1,iQuo .u64 a2 10)).bind fun y7=>lay_digits_J1 a2 y7.2.1 y7.1 y7.2.2 else lay_digits_J1 a2 1 (⟨a0,true,a1⟩ : Sl Int) false
def lay_digits (a0 : Bool) (a1 : List Int) (a2 : Int) : Option ((Sl Int)×Nat×Bool):=loopN (fun rc (x : Bool×(List Int)×Int)=>lay_digits_R rc x.1 x.2.1 x.2.2) FUEL (a0,a1,a2)
theorem lay_digits_ih : ∀ (d : Nat) {a0 : Bool} {a1 : List Int} {a2 : Int} {r : (Sl Int)×Nat×Bool} (hF : loopN (fun rc (x : Bool×(List Int)×Int)=>lay_digits_R rc x.1 x.2.1 x.2.2) d (a0,a1,a2)=some r),EvCall Tryz.prog T G0 122 [sl (cI .u8) (⟨a0,true,a1⟩ : Sl Int),.int .u64 a2] [] (fun v H'=>v=ownv (cI .u8) 0 r.2.1 1 r.1∧H'=[.room r.2.1 r.2.2]):=by
  intro d
  induction d with
  | zero=>intro _ _ _ _ hF; cases hF
  | succ d ih =>
    intro a0 a1 a2 r hF
    have hF:=loop_in hF
    refine xc Tryz.func122 ?_
    refine xq (wh 1 (we (ng ?_)))
    refine xj (fun fr H=>∃ (g2 : Nat) (p3 : Sl Int) (g5 : Bool) (g4 : Option Bool),fr=[ownv (cI .u8) 0 g2 1 p3,.int .u64 a2,.any,.any,.any,.any,junkB g4,.any,.any,.any,.any,.any,.any,.any,.any,.any,.any,.any]∧H=[.room g2 g5]∧lay_digits_J1 a2 g2 p3 g5=some r) (fun fr H ⟨g2,p3,g5,g4,e1,e2,hF⟩=>?_) (fun hJ1=>?_)
    ·subst e1 e2
     refine xq (wh 5 (w_frz (v:=sl (cI .u8) (⟨false,true,[IntKind.wrap .u8 (iAdd .u64 48 (iRem a2 10))]⟩ : Sl Int)) (by kernel_rfl) (bind_elim hF (fun y6 hy6 hF=>w_app (cI .u8) (e:=5) (sz:=1) (l0:=0) (real:=g5) (ver:=g2) (x:=p3) (ys:=(⟨false,true,[IntKind.wrap .u8 (iAdd .u64 48 (iRem a2 10))]⟩ : Sl Int).l) hy6 (by kernel_rfl) (by decide) (gives_sl (x:=(⟨false,true,[IntKind.wrap .u8 (iAdd .u64 48 (iRem a2 10))]⟩ : Sl Int)) (by kernel_rfl) (fun _=>rfl)) (room_at (by kernel_rfl)) (wr 8 [.room (g2+1) (g5 || !((⟨false,true,[IntKind.wrap .u8 (iAdd .u64 48 (iRem a2 10))]⟩ : Sl Int).l.length==0))] (we (ng (xt ?_))))))))
     cases hF
     exact fin_own [0] (.inl rfl) (by kernel_rfl) (by kernel_rfl) (by kernel_rfl) (by kernel_rfl) (tight_own low_cI) (shh (b0:=.room (g2+1) (g5 || !((⟨false,true,[IntKind.wrap .u8 (iAdd .u64 48 (iRem a2 10))]⟩ : Sl Int).l.length==0))) (by kernel_rfl) shb_room shh_nil) (And.intro rfl rfl)
    refine xq (wh 2 (we (ng ?_)))
    refine ite_elim hF (fun hc1 hF=>?_) (fun hc1 hF=>?_)
    ·exact kT 6 hc1 (xT (xr (wh 3 (bind_elim hF (fun y7 hy7 hF=>uO [] [0] (v:=ownv (cI .u8) 0 y7.2.1 1 y7.1) [.room y7.2.1 y7.2.2] [.room y7.2.1 y7.2.2] (ih hy7) (tights_cons (tight_sl low_cI) (tights_cons rfl rfl)) pl_nil (tight_own low_cI) (sbs sb_room sbs_nil) (wh 5 (we (then_n (x_to hJ1 (VS.sm 262140) ⟨y7.2.1,y7.1,y7.2.2,(some true),rfl,rfl,hF⟩)))))))))
    exact kF 6 hc1 (xF (xk (then_n (x_to hJ1 (VS.trans (VS.thaw (cI .u8) 0 1 (⟨a0,true,a1⟩ : Sl Int) (by kernel_rfl) rfl (fun _=>rfl)) (VS.sm 262140)) ⟨1,(⟨a0,true,a1⟩ : Sl Int),false,(some false),rfl,rfl,hF⟩))))
theorem lay_digits_ev {a0 : Bool} {a1 : List Int} {a2 : Int} {r : (Sl Int)×Nat×Bool} (hF : lay_digits a0 a1 a2=some r) : EvCall Tryz.prog T G0 122 [sl (cI .u8) (⟨a0,true,a1⟩ : Sl Int),.int .u64 a2] [] (fun v H'=>v=ownv (cI .u8) 0 r.2.1 1 r.1∧H'=[.room r.2.1 r.2.2]):=lay_digits_ih FUEL hF
def lay_Text (a0 : List UInt8) : Option ((List UInt8)×Int) :=
  if iGt (a0.length : Int) 16384=true then some ([],4) else (lay_digits true [] (IntKind.wrap .u64 (a0.length : Int))).bind fun y1=>(appL 1 y1.1 (⟨false,true,[58]⟩ : Sl Int).l).bind fun y2=>(catS (bytesS y2.l) a0).bind fun y3=>some (y3,0)
theorem lay_Text_ev {a0 : List UInt8} {r : (List UInt8)×Int} (hF : lay_Text a0=some r) : EvCall Tryz.prog T G0 92 [.str a0] [] (fun v H'=>v=.tup [.str r.1,.int .i64 r.2]∧H'=[]):=by
 refine xc Tryz.func92 ?_
 refine xq (wh 2 (we (ng (xs (xq (wh 3 (we (ng ?_))))))))
 refine ite_elim hF (fun hc1 hF=>?_) (fun hc1 hF=>?_)
 ·refine kT 6 hc1 (xT (xq (wh 2 (we (ng (xt (then_r ?_)))))))
  cases hF
  exact fE [] (.inl rfl) (low_tup (lows_cons rfl (lows_cons rfl rfl))) ⟨rfl,rfl⟩
 refine kF 6 hc1 (xF (xk (ng (xq (wh 3 (bind_elim hF (fun y1 hy1 hF=>uO [] [0] (v:=ownv (cI .u8) 0 y1.2.1 1 y1.1) [.room y1.2.1 y1.2.2] [.room y1.2.1 y1.2.2] (lay_digits_ev hy1) (tights_cons (tight_sl low_cI) (tights_cons rfl rfl)) pl_nil (tight_own low_cI) (sbs sb_room sbs_nil) (w_frz (v:=sl (cI .u8) (⟨false,true,[58]⟩ : Sl Int)) (by kernel_rfl) (bind_elim hF (fun y2 hy2 hF=>w_app (cI .u8) (e:=5) (sz:=1) (l0:=0) (real:=y1.2.2) (ver:=y1.2.1) (x:=y1.1) (ys:=(⟨false,true,[58]⟩ : Sl Int).l) hy2 (by kernel_rfl) (by decide) (gives_sl (x:=(⟨false,true,[58]⟩ : Sl Int)) (by kernel_rfl) (fun _=>rfl)) (room_at (by kernel_rfl)) (w_str (l:=y2.l) (by kernel_rfl) (wr 8 [.room (y1.2.1+1) (y1.2.2 || !((⟨false,true,[58]⟩ : Sl Int).l.length==0))] (bind_elim hF (fun y3 hy3 hF=>w_cat (by kernel_rfl) hy3 (wh 11 (we (ng (xt ?_))))))))))))))))))
 cases hF
 exact fE [] (.inl rfl) (low_tup (lows_cons rfl (lows_cons rfl rfl))) ⟨rfl,rfl⟩
def lay_Number (a0 : Int) : Option (List UInt8) :=
  if iLt a0 0=true then (lay_digits false [45] (iNeg .u64 (IntKind.wrap .u64 a0))).bind fun y7=>(appL 1 y7.1 (⟨false,true,[59]⟩ : Sl Int).l).bind fun y8=>some (bytesS y8.l) else (lay_digits true [] (IntKind.wrap .u64 a0)).bind fun y9=>(appL 1 y9.1 (⟨false,true,[59]⟩ : Sl Int).l).bind fun y10=>some (bytesS y10.l)
theorem lay_Number_ev {a0 : Int} {r : (List UInt8)} (hF : lay_Number a0=some r) : EvCall Tryz.prog T G0 93 [.int .i64 a0] [] (fun v H'=>v=.str r∧H'=[]):=by
 refine xc Tryz.func93 ?_
 refine xq (wh 1 (we (ng (xs (xq (wh 2 (we (ng ?_))))))))
 refine ite_elim hF (fun hc1 hF=>?_) (fun hc1 hF=>?_)
 ·refine kT 4 hc1 (xT (xq (w_frz (v:=sl (cI .u8) (⟨false,true,[45]⟩ : Sl Int)) (by kernel_rfl) (wh 4 (bind_elim hF (fun y7 hy7 hF=>uO [] [0] (v:=ownv (cI .u8) 0 y7.2.1 1 y7.1) [.room y7.2.1 y7.2.2] [.room y7.2.1 y7.2.2] (lay_digits_ev hy7) (tights_cons (tight_sl low_cI) (tights_cons rfl rfl)) pl_nil (tight_own low_cI) (sbs sb_room sbs_nil) (w_frz (v:=sl (cI .u8) (⟨false,true,[59]⟩ : Sl Int)) (by kernel_rfl) (bind_elim hF (fun y8 hy8 hF=>w_app (cI .u8) (e:=5) (sz:=1) (l0:=0) (real:=y7.2.2) (ver:=y7.2.1) (x:=y7.1) (ys:=(⟨false,true,[59]⟩ : Sl Int).l) hy8 (by kernel_rfl) (by decide) (gives_sl (x:=(⟨false,true,[59]⟩ : Sl Int)) (by kernel_rfl) (fun _=>rfl)) (room_at (by kernel_rfl)) (w_str (l:=y8.l) (by kernel_rfl) (wr 9 [.room (y7.2.1+1) (y7.2.2 || !((⟨false,true,[59]⟩ : Sl Int).l.length==0))] (we (ng (xt (then_r ?_)))))))))))))))
  cases hF
  exact fE [] (.inl rfl) rfl ⟨rfl,rfl⟩
 refine kF 4 hc1 (xF (xk (ng (xq (wh 2 (bind_elim hF (fun y9 hy9 hF=>uO [] [0] (v:=ownv (cI .u8) 0 y9.2.1 1 y9.1) [.room y9.2.1 y9.2.2] [.room y9.2.1 y9.2.2] (lay_digits_ev hy9) (tights_cons (tight_sl low_cI) (tights_cons rfl rfl)) pl_nil (tight_own low_cI) (sbs sb_room sbs_nil) (w_frz (v:=sl (cI .u8) (⟨false,true,[59]⟩ : Sl Int)) (by kernel_rfl) (bind_elim hF (fun y10 hy10 hF=>w_app (cI .u8) (e:=5) (sz:=1) (l0:=0) (real:=y9.2.2) (ver:=y9.2.1) (x:=y9.1) (ys:=(⟨false,true,[59]⟩ : Sl Int).l) hy10 (by kernel_rfl) (by decide) (gives_sl (x:=(⟨false,true,[59]⟩ : Sl Int)) (by kernel_rfl) (fun _=>rfl)) (room_at (by kernel_rfl)) (w_str (l:=y10.l) (by kernel_rfl) (wr 7 [.room (y9.2.1+1) (y9.2.2 || !((⟨false,true,[59]⟩ : Sl Int).l.length==0))] (we (ng (xt ?_)))))))))))))))
 cases hF
 exact fE [] (.inl rfl) rfl ⟨rfl,rfl⟩
def sum_New  : Option Sum_Sum256 :=
  some (⟨(⟨[1779033703,3144134277,1013904242,2773480762,1359893119,2600822924,528734635,1541459225],by rfl⟩ : Arr 8),(Arr.zero 64),0⟩ : Sum_Sum256)
theorem sum_New_ev {r : Sum_Sum256} (hF : sum_New=some r) : EvCall Tryz.prog T G0 130 [] [] (fun v H'=>v=.ptr 0 0∧H'=[.cells (cSum_Sum256 r)]):=by
 refine xc Tryz.func130 ?_
 refine xq (wh 1 (we (ng (xq (wr 4 [.cells (cSum_Sum256 (⟨(⟨[1779033703,3144134277,1013904242,2773480762,1359893119,2600822924,528734635,1541459225],by rfl⟩ : Arr 8),(Arr.zero 64),0⟩ : Sum_Sum256))] (we (ng (xt ?_))))))))
 cases hF
 exact fS [0] (.inl rfl) rfl (sk rfl shh_nil) ⟨rfl,rfl⟩
def math_bits_RotateLeft32 (a0 : Int) (a1 : Int) : Option Int :=
  (shlI .u32 a0 (iAnd .u64 (IntKind.wrap .u64 a1) 31)).bind fun y400=>(shrI .u32 a0 (iSub .u64 32 (iAnd .u64 (IntKind.wrap .u64 a1) 31))).bind fun y401=>some (iOr .u32 y400 y401)
theorem math_bits_RotateLeft32_ev {a0 : Int} {a1 : Int} {r : Int} (hF : math_bits_RotateLeft32 a0 a1=some r) : EvCall Tryz.prog T G0 167 [.int .u32 a0,.int .i64 a1] [] (fun v H'=>v=.int .u32 r∧H'=[]):=by
 refine xc Tryz.func167 ?_
 refine xq (wh 1 (we (ng (xq (wh 4 (we (ng (xq (wh 2 (bind_elim hF (fun y400 hy400 hF=>w_shl (by kernel_rfl) hy400 (wh 6 (bind_elim hF (fun y401 hy401 hF=>w_shr (by kernel_rfl) hy401 (wh 9 (we (ng (xt ?_))))))))))))))))))
 cases hF
 exact fE [] (.inl rfl) rfl ⟨rfl,rfl⟩
def sum_rot (a0 : Int) (a1 : Int) : Option Int :=
  (math_bits_RotateLeft32 a0 (iNeg .i64 a1)).bind fun y400=>some y400
theorem sum_rot_ev {a0 : Int} {a1 : Int} {r : Int} (hF : sum_rot a0 a1=some r) : EvCall Tryz.prog T G0 161 [.int .u32 a0,.int .i64 a1] [] (fun v H'=>v=.int .u32 r∧H'=[]):=by
 refine xc Tryz.func161 ?_
 refine xq (wh 1 (we (ng (xq (wh 3 (bind_elim hF (fun y400 hy400 hF=>uC (math_bits_RotateLeft32_ev hy400) (lows_cons rfl (lows_cons rfl rfl)) rfl (wh 5 (we (ng (xt ?_)))))))))))
 cases hF
 exact fE [] (.inl rfl) rfl ⟨rfl,rfl⟩
def sum_words_J5 (p505 : Arr 64) : Option (Arr 64) :=
  some p505
def sum_words_B580  (k580 : (Int×(Arr 64))→Option (Arr 64)) (x580 : Int×(Arr 64)) : Option (Arr 64) :=
  if iLt x580.1 64=true then (idxN 64 (iSub .i64 x580.1 15)).bind fun y600=>(idxN 64 (iSub .i64 x580.1 2)).bind fun y601=>(sum_rot (x580.2.at y600) 7).bind fun y602=>(sum_rot (x580.2.at y600) 18).bind fun y603=>(sum_rot (x580.2.at y601) 17).bind fun y604=>(sum_rot (x580.2.at y601) 19).bind fun y605=>(idxN 64 (iSub .i64 x580.1 7)).bind fun y612=>(idxN 64 (iSub .i64 x580.1 16)).bind fun y613=>(idxN 64 x580.1).bind fun y614=>k580 (iAdd .i64 x580.1 1,x580.2.set y614 (iAdd .u32 (iAdd .u32 (iAdd .u32 (iXor .u32 (iXor .u32 y604 y605) (iShr .u32 (x580.2.at y601) 10)) (x580.2.at y612)) (iXor .u32 (iXor .u32 y602 y603) (iShr .u32 (x580.2.at y600) 3))) (x580.2.at y613))) else sum_words_J5 x580.2
def sum_words_J4 (p395 : Arr 64) : Option (Arr 64) :=
  loopN (sum_words_B580) FUEL (16,p395)
def sum_words_J8 (k869 : (Int×(Arr 64))→Option (Arr 64)) (x869 : Int×(Arr 64)) (p931 : Arr 64) : Option (Arr 64) :=
  k869 (iAdd .i64 x869.1 1,p931)
def sum_words_B974 (a0 : Arr 64) (k869 : (Int×(Arr 64))→Option (Arr 64)) (x869 : Int×(Arr 64)) (k974 : (Int×(Arr 64))→Option (Arr 64)) (x974 : Int×(Arr 64)) : Option (Arr 64) :=
  if iLt x974.1 4=true then (idxN 64 x869.1).bind fun y990=>(idxN 64 (iAdd .i64 (iMul .i64 4 x869.1) x974.1)).bind fun y991=>(idxN 64 x869.1).bind fun y992=>k974 (iAdd .i64 x974.1 1,x974.2.set y992 (iOr .u32 (iShl .u32 (x974.2.at y990) 8) (IntKind.wrap .u32 (a0.at y991)))) else sum_words_J8 k869 x869 x974.2
def sum_words_B869 (a0 : Arr 64) (k869 : (Int×(Arr 64))→Option (Arr 64)) (x869 : Int×(Arr 64)) : Option (Arr 64) :=
  if iLt x869.1 16=true then loopN (sum_words_B974 a0 k869 x869) FUEL (0,x869.2) else sum_words_J4 x869.2
def sum_words (a0 : Arr 64) : Option (Arr 64) :=
  loopN (sum_words_B869 a0) FUEL (0,(Arr.zero 64))
theorem sum_words_ev {a0 : Arr 64} {r : (Arr 64)} (hF : sum_words a0=some r) : EvCall Tryz.prog T G0 160 [.agg ((cA .u8) a0)] [] (fun v H'=>v=.agg ((cA .u32) r)∧H'=[]):=by
 refine xc Tryz.func160 ?_
 refine xq (wr 2 [.cells ((cA .u8) a0),.cells ((cA .u32) (Arr.zero 64))] (we (ng (xq (wr 1 [.cells ((cA .u8) a0),.cells ((cA .u32) (Arr.zero 64)),.cells ((cA .u32) (Arr.zero 64))] (we (ng ?_)))))))
 refine xj (fun fr H=>∃ (p395 : Arr 64) (g394 : Option Bool),fr=[.any,.any,.ptr 0 0,.ptr 1 0,.any,.any,.any,.any,.any,.any,.any,.any,.bool false,.any,.any,junkB g394,.any,.any,.any,.any,.any,.any,.any,.any,.any,.any,.any,.any,.any,.any,.any,.any,.any,.any,.any,.any,.any,.any,.any,.any,.any,.any,.any,.any,.any,.any,.any,.any,.any,.any,.any,.any,.any,.any,.any,.any,.any,.any,.any,.any,.any,.any,.any,.any,.any,.any,.any,.any,.any,.any,.any,.any,.any,.any,.any,.any,.any]∧H=[.cells ((cA .u32) (Arr.zero 64)),.cells ((cA .u32) p395)]∧sum_words_J4 p395=some r) (fun fr H ⟨p395,g394,e1,e2,hF⟩=>?_) (fun hJ4=>?_)
 ·subst e1 e2
  refine xj (fun fr H=>∃ (p505 : Arr 64),fr=[.any,.any,.ptr 0 0,.ptr 1 0,.any,.any,.any,.any,.any,.any,.any,.any,.bool false,.any,.any,junkB g394,.any,.any,.any,.any,.any,.any,.any,.any,.any,.any,.any,.any,.any,.any,.any,.any,.any,.any,.bool false,.any,.any,.any,.any,.any,.any,.any,.any,.any,.any,.any,.any,.any,.any,.any,.any,.any,.any,.any,.any,.any,.any,.any,.any,.any,.any,.any,.any,.any,.any,.any,.any,.any,.any,.any,.any,.any,.any,.any,.any,.any,.any]∧H=[.cells ((cA .u32) (Arr.zero 64)),.cells ((cA .u32) p505)]∧sum_words_J5 p505=some r) (fun fr H ⟨p505,e1,e2,hF⟩=>?_) (fun hJ5=>?_)
  ·subst e1 e2
   refine xq (wr 2 [.cells ((cA .u32) p505),.cells ((cA .u32) p505)] (we (ng (xt ?_))))
   cases hF
   exact fE [] (.inl rfl) (low_agg (low_cA _)) ⟨rfl,rfl⟩
  refine xq (wh 1 (we (ng (xb (x_loop (fun d fr H=>∃ (x580 : Int×(Arr 64)) (g541 : Option Bool),fr=[.any,.any,.ptr 0 0,.ptr 1 0,.any,.any,.int .i64 x580.1,.any,.any,.any,.any,.any,.bool false,.any,.any,junkB g394,.any,.any,.any,.any,.any,.any,.any,.any,.any,.any,.any,.any,.any,.any,.any,.any,.any,.any,junkB g541,.any,.any,.any,.any,.any,.any,.any,.any,.any,.any,.any,.any,.any,.any,.any,.any,.any,.any,.any,.any,.any,.any,.any,.any,.any,.any,.any,.any,.any,.any,.any,.any,.any,.any,.any,.any,.any,.any,.any,.any,.any,.any]∧H=[.cells ((cA .u32) (Arr.zero 64)),.cells ((cA .u32) x580.2)]∧loopN (sum_words_B580) d x580=some r) (by kernel_rfl) (fun fr H ⟨x580,g541,e1,e2,hF⟩=>loop_no hF) (fun d580 fr H ⟨x580,g541,e1,e2,hF⟩=>?_) (VS.sm 151115727451828646801331) ⟨(16,p395),none,rfl,rfl,hF⟩)))))
  subst e1 e2
  have hF:=loop_in hF
  refine xs (xq (wh 2 (we (ng ?_))))
  refine ite_elim hF (fun hc1 hF=>?_) (fun hc1 hF=>?_)
  ·refine kT 34 hc1 (xT (xk (ng (xs (xb (xs (xd 47316549326933573435905 call_ends callMono (wp 2 (bind_elim hF (fun y600 hy600 hF=>w_aaddr (l:=1) (o:=0) hy600 (by kernel_rfl) (w_aload (l:=1) (o:=0) (kd:=.u32) x580.2 hy600 (by kernel_rfl) (by kernel_rfl) (by kernel_rfl) (wp 6 (bind_elim hF (fun y601 hy601 hF=>w_aaddr (l:=1) (o:=0) hy601 (by kernel_rfl) (w_aload (l:=1) (o:=0) (kd:=.u32) x580.2 hy601 (by kernel_rfl) (by kernel_rfl) (by kernel_rfl) (wp 10 (we (de (ng (xq (wh 1 (bind_elim hF (fun y602 hy602 hF=>uC (sum_rot_ev hy602) (lows_cons rfl (lows_cons rfl rfl)) rfl (wh 3 (bind_elim hF (fun y603 hy603 hF=>uC (sum_rot_ev hy603) (lows_cons rfl (lows_cons rfl rfl)) rfl (wh 9 (we (ng (xq (wh 1 (bind_elim hF (fun y604 hy604 hF=>uC (sum_rot_ev hy604) (lows_cons rfl (lows_cons rfl rfl)) rfl (wh 3 ?_))))))))))))))))))))))))))))))))))
   exact bind_elim hF (fun y605 hy605 hF=>uC (sum_rot_ev hy605) (lows_cons rfl (lows_cons rfl rfl)) rfl (wh 9 (we (ng (x_rows 0 32767 [⟨15,[],[],[],[]⟩] call_ends callMono (by kernel_rfl) (by kernel_rfl) (wp 4 (bind_elim hF (fun y612 hy612 hF=>w_aaddr (l:=1) (o:=0) hy612 (by kernel_rfl) (w_aload (l:=1) (o:=0) (kd:=.u32) x580.2 hy612 (by kernel_rfl) (by kernel_rfl) (by kernel_rfl) (wp 11 (bind_elim hF (fun y613 hy613 hF=>w_aaddr (l:=1) (o:=0) hy613 (by kernel_rfl) (w_aload (l:=1) (o:=0) (kd:=.u32) x580.2 hy613 (by kernel_rfl) (by kernel_rfl) (by kernel_rfl) (wp 14 (bind_elim hF (fun y614 hy614 hF=>w_aaddr (l:=1) (o:=0) hy614 (by kernel_rfl) (we (rows_next (w_astore (l:=1) (o:=0) (kd:=.u32) (v:=iAdd .u32 (iAdd .u32 (iAdd .u32 (iXor .u32 (iXor .u32 y604 y605) (iShr .u32 (x580.2.at y601) 10)) (x580.2.at y612)) (iXor .u32 (iXor .u32 y602 y603) (iShr .u32 (x580.2.at y600) 3))) (x580.2.at y613)) x580.2 hy614 (by kernel_rfl) (by kernel_rfl) (by kernel_rfl) (we (⟨⟨(by kernel_rfl),trivial⟩,(we (rows_done (de (block_n (ng (xr (wr 3 [.cells ((cA .u32) (Arr.zero 64)),.cells ((cA .u32) (x580.2.set y614 (iAdd .u32 (iAdd .u32 (iAdd .u32 (iXor .u32 (iXor .u32 y604 y605) (iShr .u32 (x580.2.at y601) 10)) (x580.2.at y612)) (iXor .u32 (iXor .u32 y602 y603) (iShr .u32 (x580.2.at y600) 3))) (x580.2.at y613))))] (we (then_n (x_back (VS.sm 151115727451828646801331) ⟨(iAdd .i64 x580.1 1,x580.2.set y614 (iAdd .u32 (iAdd .u32 (iAdd .u32 (iXor .u32 (iXor .u32 y604 y605) (iShr .u32 (x580.2.at y601) 10)) (x580.2.at y612)) (iXor .u32 (iXor .u32 y602 y603) (iShr .u32 (x580.2.at y600) 3))) (x580.2.at y613))),(some true),rfl,rfl,hF⟩))))))))))⟩)))))))))))))))))))))
  exact kF 34 hc1 (xF (xe (then_e (then_e (block_e (then_n (x_to hJ5 (VS.sm 151115727451811466932211) ⟨x580.2,rfl,rfl,hF⟩)))))))
 refine xq (wh 1 (we (ng (xb (x_loop (fun d fr H=>∃ (x869 : Int×(Arr 64)) (g739 : Option Bool) (g740 : Option Bool),fr=[.any,.ptr 0 0,.ptr 1 0,.ptr 2 0,.any,.any,.any,.any,.any,.any,.any,.int .i64 x869.1,junkB g739,.any,.any,junkB g740,.any,.any,.any,.any,.any,.any,.any,.any,.any,.any,.any,.any,.any,.any,.any,.any,.any,.any,.any,.any,.any,.any,.any,.any,.any,.any,.any,.any,.any,.any,.any,.any,.any,.any,.any,.any,.any,.any,.any,.any,.any,.any,.any,.any,.any,.any,.any,.any,.any,.any,.any,.any,.any,.any,.any,.any,.any,.any,.any,.any,.any]∧H=[.cells ((cA .u8) a0),.cells ((cA .u32) (Arr.zero 64)),.cells ((cA .u32) x869.2)]∧loopN (sum_words_B869 a0) d x869=some r) (by kernel_rfl) (fun fr H ⟨x869,g739,g740,e1,e2,hF⟩=>loop_no hF) (fun d869 fr H ⟨x869,g739,g740,e1,e2,hF⟩=>?_) (VS.sm 151115727451828646836209) ⟨(0,(Arr.zero 64)),none,none,rfl,rfl,hF⟩)))))
 subst e1 e2
 have hF:=loop_in hF
 refine xq (wh 1 (we (ng (xs ?_))))
 refine ite_elim hF (fun hc2 hF=>?_) (fun hc2 hF=>?_)
 ·refine kT 12 hc2 (xT (xk (ng ?_)))
  refine xj (fun fr H=>∃ (p931 : Arr 64),fr=[.any,.ptr 0 0,.ptr 1 0,.ptr 2 0,.any,.any,.any,.any,.any,.any,.any,.int .i64 x869.1,.bool true,.any,.any,.bool false,.any,.any,.any,.any,.any,.any,.any,.any,.any,.any,.any,.any,.any,.any,.any,.any,.any,.any,.any,.any,.any,.any,.any,.any,.any,.any,.any,.any,.any,.any,.any,.any,.any,.any,.any,.any,.any,.any,.any,.any,.any,.any,.any,.any,.any,.any,.any,.any,.any,.any,.any,.any,.any,.any,.any,.any,.any,.any,.any,.any,.any]∧H=[.cells ((cA .u8) a0),.cells ((cA .u32) (Arr.zero 64)),.cells ((cA .u32) p931)]∧sum_words_J8 (loopN (sum_words_B869 a0) d869) x869 p931=some r) (fun fr H ⟨p931,e1,e2,hF⟩=>?_) (fun hJ8=>?_)
  ·subst e1 e2
   exact xr (wh 2 (we (then_n (x_back (VS.sm 151115727451828646836209) ⟨(iAdd .i64 x869.1 1,p931),(some true),(some false),rfl,rfl,hF⟩))))
  refine xb (xq (wh 2 (we (ng (xq (wh 1 (we (ng (xb (x_loop (fun d fr H=>∃ (x974 : Int×(Arr 64)) (g951 : Option Bool),fr=[.any,.ptr 0 0,.ptr 1 0,.ptr 2 0,.int .i64 x869.1,.any,.any,.any,.any,.any,.any,.int .i64 x869.1,.bool true,.any,.int .i64 x974.1,junkB g951,.any,.any,.any,.any,.any,.any,.any,.any,.any,.any,.any,.any,.any,.any,.any,.any,.any,.any,.any,.any,.any,.any,.any,.any,.any,.any,.any,.any,.any,.any,.any,.any,.any,.any,.any,.any,.any,.any,.any,.any,.any,.any,.any,.any,.any,.any,.any,.any,.any,.any,.any,.any,.any,.any,.any,.any,.any,.any,.any,.any,.any]∧H=[.cells ((cA .u8) a0),.cells ((cA .u32) (Arr.zero 64)),.cells ((cA .u32) x974.2)]∧loopN (sum_words_B974 a0 (loopN (sum_words_B869 a0) d869) x869) d x974=some r) (by kernel_rfl) (fun fr H ⟨x974,g951,e1,e2,hF⟩=>loop_no hF) (fun d974 fr H ⟨x974,g951,e1,e2,hF⟩=>?_) (VS.sm 151115727451828646782945) ⟨(0,x869.2),g740,rfl,rfl,hF⟩))))))))))
  subst e1 e2
  have hF:=loop_in hF
  refine xq (wh 1 (we (ng (xs ?_))))
  refine ite_elim hF (fun hc3 hF=>?_) (fun hc3 hF=>?_)
  ·refine kT 15 hc3 (xT (xk (ng (xs (xb (xq (wh 2 (we (ng (x_rows 0 16383 [⟨14,[],[],[],[]⟩] call_ends callMono (by kernel_rfl) (by kernel_rfl) (wp 2 (bind_elim hF (fun y990 hy990 hF=>w_aaddr (l:=2) (o:=0) hy990 (by kernel_rfl) (w_aload (l:=2) (o:=0) (kd:=.u32) x974.2 hy990 (by kernel_rfl) (by kernel_rfl) (by kernel_rfl) (wp 9 (bind_elim hF (fun y991 hy991 hF=>w_aaddr (l:=0) (o:=0) hy991 (by kernel_rfl) (w_aload (l:=0) (o:=0) (kd:=.u8) a0 hy991 (by kernel_rfl) (by kernel_rfl) (by kernel_rfl) (wp 13 (bind_elim hF (fun y992 hy992 hF=>w_aaddr (l:=2) (o:=0) hy992 (by kernel_rfl) (we (rows_next (w_astore (l:=2) (o:=0) (kd:=.u32) (v:=iOr .u32 (iShl .u32 (x974.2.at y990) 8) (IntKind.wrap .u32 (a0.at y991))) x974.2 hy992 (by kernel_rfl) (by kernel_rfl) (by kernel_rfl) (we (⟨⟨(by kernel_rfl),trivial⟩,(we (rows_done (de (block_n (ng (xr ?_))))))⟩))))))))))))))))))))))))))
   exact wr 2 [.cells ((cA .u8) a0),.cells ((cA .u32) (Arr.zero 64)),.cells ((cA .u32) (x974.2.set y992 (iOr .u32 (iShl .u32 (x974.2.at y990) 8) (IntKind.wrap .u32 (a0.at y991)))))] (we (then_n (x_back (VS.sm 151115727451828646815713) ⟨(iAdd .i64 x974.1 1,x974.2.set y992 (iOr .u32 (iShl .u32 (x974.2.at y990) 8) (IntKind.wrap .u32 (a0.at y991)))),(some true),rfl,rfl,hF⟩)))
  exact kF 15 hc3 (xF (xe (then_e (then_e (block_e (block_n (then_n (x_to hJ8 (VS.sm 151115727451828646799345) ⟨x974.2,rfl,rfl,hF⟩))))))))
 exact kF 12 hc2 (xF (xe (then_e (then_e (block_e (then_n (x_to hJ4 (VS.shX [1,2] 151115727451828646801395 [15] (by kernel_rfl) (by kernel_rfl) (by kernel_rfl) (by exact ⟨low_junk g740,trivial⟩) (tights_at [15] (by kernel_rfl) (by exact ⟨(tight_junk g740),trivial⟩)) (sk rfl (sk rfl shh_nil))) ⟨x869.2,g740,rfl,rfl,hF⟩)))))))
def sum_take_J2 (p314 : Arr 8) : Option (Arr 8) :=
  some p314
def sum_take_B357 (a0 : Arr 8) (k357 : (Int×(Arr 8))→Option (Arr 8)) (x357 : Int×(Arr 8)) : Option (Arr 8) :=
  if iLt x357.1 8=true then (idxN 8 x357.1).bind fun y373=>(idxN 8 x357.1).bind fun y374=>(idxN 8 x357.1).bind fun y375=>k357 (iAdd .i64 x357.1 1,x357.2.set y375 (iAdd .u32 (x357.2.at y373) (a0.at y374))) else sum_take_J2 x357.2
def sum_take_J1 (a0 : Arr 8) (p252 : Arr 8) : Option (Arr 8) :=
  loopN (sum_take_B357 a0) FUEL (0,p252)
def sum_take_B535 (a0 : Arr 8) (y376 : (Arr 64)) (k535 : (Int×(Arr 8))→Option (Arr 8)) (x535 : Int×(Arr 8)) : Option (Arr 8) :=
  if iLt x535.1 64=true then (idxN 64 x535.1).bind fun y574=>(idxN 8 0).bind fun y577=>(idxN 8 4).bind fun y578=>(idxN 8 7).bind fun y586=>(sum_rot (x535.2.at y578) 6).bind fun y587=>(sum_rot (x535.2.at y578) 11).bind fun y588=>(sum_rot (x535.2.at y578) 25).bind fun y589=>(idxN 8 5).bind fun y590=>(idxN 8 6).bind fun y591=>(idxN 64 x535.1).bind fun y592=>(sum_rot (x535.2.at y577) 2).bind fun y600=>(sum_rot (x535.2.at y577) 13).bind fun y601=>(sum_rot (x535.2.at y577) 22).bind fun y602=>(idxN 8 1).bind fun y603=>(idxN 8 2).bind fun y604=>(idxN 8 1).bind fun y605=>(idxN 8 2).bind fun y606=>(idxN 8 1).bind fun y607=>(idxN 8 2).bind fun y608=>(idxN 8 3).bind fun y609=>(idxN 8 5).bind fun y610=>(idxN 8 6).bind fun y611=>k535 (iAdd .i64 x535.1 1,(⟨[iAdd .u32 (iAdd .u32 (iAdd .u32 (iAdd .u32 (iAdd .u32 (x535.2.at y586) (iXor .u32 (iXor .u32 y587 y588) y589)) (iXor .u32 (iAnd .u32 (x535.2.at y578) (x535.2.at y590)) (iAnd .u32 (iNot .u32 (x535.2.at y578)) (x535.2.at y591)))) (gv0.at y592)) (y376.at y574)) (iAdd .u32 (iXor .u32 (iXor .u32 y600 y601) y602) (iXor .u32 (iXor .u32 (iAnd .u32 (x535.2.at y577) (x535.2.at y603)) (iAnd .u32 (x535.2.at y577) (x535.2.at y604))) (iAnd .u32 (x535.2.at y605) (x535.2.at y606)))),x535.2.at y577,x535.2.at y607,x535.2.at y608,iAdd .u32 (x535.2.at y609) (iAdd .u32 (iAdd .u32 (iAdd .u32 (iAdd .u32 (x535.2.at y586) (iXor .u32 (iXor .u32 y587 y588) y589)) (iXor .u32 (iAnd .u32 (x535.2.at y578) (x535.2.at y590)) (iAnd .u32 (iNot .u32 (x535.2.at y578)) (x535.2.at y591)))) (gv0.at y592)) (y376.at y574)),x535.2.at y578,x535.2.at y610,x535.2.at y611],by rfl⟩ : Arr 8)) else sum_take_J1 a0 x535.2
def sum_take (a0 : Arr 8) (a1 : Arr 64) : Option (Arr 8) :=
  (sum_words a1).bind fun y376=>loopN (sum_take_B535 a0 y376) FUEL (0,a0)
theorem sum_take_ev {a0 : Arr 8} {a1 : Arr 64} {r : (Arr 8)} (hF : sum_take a0 a1=some r) : EvCall Tryz.prog T G0 148 [.agg ((cA .u32) a0),.agg ((cA .u8) a1)] [] (fun v H'=>v=.agg ((cA .u32) r)∧H'=[]):=by
 refine xc Tryz.func148 ?_
 refine xq (wr 3 [.cells ((cA .u32) a0),.cells ((cA .u8) a1),.cells ((cA .u32) (Arr.zero 8))] (we (ng (xq (wr 3 [.cells ((cA .u32) a0),.cells ((cA .u8) a1),.cells ((cA .u32) (Arr.zero 8)),.cells ((cA .u32) a0)] (we (ng ?_)))))))
 refine xj (fun fr H=>∃ (p252 : Arr 8),fr=[.any,.any,.ptr 0 0,.any,.ptr 1 0,.ptr 2 0,.any,.any,.any,.any,.any,.any,.any,.any,.any,.any,.any,.bool false,.any,.any,.any,.any,.any,.any,.any,.any,.any,.any,.any,.any,.any,.any,.any,.any,.any,.any,.any,.any,.any,.any,.any,.any,.any,.any,.any,.any,.any,.any,.any,.any,.any,.any,.any,.any,.any,.any,.any,.any,.any,.any,.any,.any,.any,.any,.any,.any,.any,.any,.any,.any,.any,.any,.any,.any,.any,.any,.any,.any,.any,.any,.any,.any,.any,.any,.any,.any,.any,.any,.any,.any,.any,.any,.any,.any,.any,.any,.any,.any,.any,.any,.any,.any,.any,.any,.any,.any,.any,.any]∧H=[.cells ((cA .u32) a0),.cells ((cA .u32) (Arr.zero 8)),.cells ((cA .u32) p252)]∧sum_take_J1 a0 p252=some r) (fun fr H ⟨p252,e1,e2,hF⟩=>?_) (fun hJ1=>?_)
 ·subst e1 e2
  refine xj (fun fr H=>∃ (p314 : Arr 8),fr=[.any,.any,.any,.any,.ptr 0 0,.ptr 1 0,.any,.any,.any,.any,.any,.any,.any,.any,.any,.any,.any,.bool false,.any,.any,.any,.any,.any,.any,.any,.any,.any,.any,.any,.any,.any,.any,.any,.any,.any,.any,.any,.any,.any,.any,.any,.any,.any,.any,.any,.any,.any,.any,.any,.any,.any,.any,.any,.any,.any,.any,.any,.any,.any,.any,.any,.any,.any,.any,.any,.any,.any,.any,.any,.any,.any,.any,.any,.any,.any,.any,.any,.any,.any,.any,.any,.any,.any,.any,.any,.any,.any,.any,.any,.any,.any,.any,.any,.any,.any,.any,.bool false,.any,.any,.any,.any,.any,.any,.any,.any,.any,.any,.any]∧H=[.cells ((cA .u32) (Arr.zero 8)),.cells ((cA .u32) p314)]∧sum_take_J2 p314=some r) (fun fr H ⟨p314,e1,e2,hF⟩=>?_) (fun hJ2=>?_)
  ·subst e1 e2
   refine xq (wr 2 [.cells ((cA .u32) p314),.cells ((cA .u32) p314)] (we (ng (xt ?_))))
   cases hF
   exact fE [] (.inl rfl) (low_agg (low_cA _)) ⟨rfl,rfl⟩
  refine xq (wh 1 (we (ng (xb (x_loop (fun d fr H=>∃ (x357 : Int×(Arr 8)) (g334 : Option Bool),fr=[.any,.any,.ptr 0 0,.any,.ptr 1 0,.ptr 2 0,.any,.any,.any,.any,.any,.any,.any,.any,.any,.any,.any,.bool false,.any,.any,.any,.any,.any,.any,.any,.any,.any,.any,.any,.any,.any,.any,.any,.any,.any,.any,.any,.any,.any,.any,.any,.any,.any,.any,.any,.any,.any,.any,.any,.any,.any,.any,.any,.any,.any,.any,.any,.any,.any,.any,.any,.any,.any,.any,.any,.any,.any,.any,.any,.any,.any,.any,.any,.any,.any,.any,.any,.any,.any,.any,.any,.any,.any,.any,.any,.any,.any,.any,.any,.any,.any,.any,.any,.any,.any,.int .i64 x357.1,junkB g334,.any,.any,.any,.any,.any,.any,.any,.any,.any,.any,.any]∧H=[.cells ((cA .u32) a0),.cells ((cA .u32) (Arr.zero 8)),.cells ((cA .u32) x357.2)]∧loopN (sum_take_B357 a0) d x357=some r) (by kernel_rfl) (fun fr H ⟨x357,g334,e1,e2,hF⟩=>loop_no hF) (fun d357 fr H ⟨x357,g334,e1,e2,hF⟩=>?_) (VS.sm 324478939577169594614359248469963) ⟨(0,p252),none,rfl,rfl,hF⟩)))))
  subst e1 e2
  have hF:=loop_in hF
  refine xq (wh 1 (we (ng (xs ?_))))
  refine ite_elim hF (fun hc1 hF=>?_) (fun hc1 hF=>?_)
  ·refine kT 96 hc1 (xT (xk (ng (xs (xb (xq (wh 2 (we (ng (x_rows 0 255 [⟨8,[],[],[],[]⟩] call_ends callMono (by kernel_rfl) (by kernel_rfl) (wp 1 (bind_elim hF (fun y373 hy373 hF=>w_aaddr (l:=2) (o:=0) hy373 (by kernel_rfl) (w_aload (l:=2) (o:=0) (kd:=.u32) x357.2 hy373 (by kernel_rfl) (by kernel_rfl) (by kernel_rfl) (wp 4 (bind_elim hF (fun y374 hy374 hF=>w_aaddr (l:=0) (o:=0) hy374 (by kernel_rfl) (w_aload (l:=0) (o:=0) (kd:=.u32) a0 hy374 (by kernel_rfl) (by kernel_rfl) (by kernel_rfl) (wp 7 (bind_elim hF (fun y375 hy375 hF=>w_aaddr (l:=2) (o:=0) hy375 (by kernel_rfl) (we (rows_next (w_astore (l:=2) (o:=0) (kd:=.u32) (v:=iAdd .u32 (x357.2.at y373) (a0.at y374)) x357.2 hy375 (by kernel_rfl) (by kernel_rfl) (by kernel_rfl) (we (⟨⟨(by kernel_rfl),trivial⟩,(we (rows_done (de (block_n (ng (xr ?_))))))⟩))))))))))))))))))))))))))
   exact wr 2 [.cells ((cA .u32) a0),.cells ((cA .u32) (Arr.zero 8)),.cells ((cA .u32) (x357.2.set y375 (iAdd .u32 (x357.2.at y373) (a0.at y374))))] (we (then_n (x_back (VS.sm 324478939577169594614359248469963) ⟨(iAdd .i64 x357.1 1,x357.2.set y375 (iAdd .u32 (x357.2.at y373) (a0.at y374))),(some true),rfl,rfl,hF⟩)))
  exact kF 96 hc1 (xF (xe (then_e (then_e (block_e (then_n (x_to hJ2 (VS.si [1,2] 324439325495912462445562476494799 (by kernel_rfl) (sk rfl (sk rfl shh_nil))) ⟨x357.2,rfl,rfl,hF⟩)))))))
 refine xq (wh 1 (bind_elim hF (fun y376 hy376 hF=>uC (sum_words_ev hy376) (lows_cons (low_agg (low_cA _)) rfl) (low_agg (low_cA _)) (wh 3 (we (ng (xb (x_loop (fun d fr H=>∃ (x535 : Int×(Arr 8)) (g454 : Option Bool),fr=[.any,.any,.ptr 0 0,.any,.ptr 1 0,.ptr 2 0,.any,.any,.any,.any,.any,.any,.any,.any,.any,.agg ((cA .u32) y376),.int .i64 x535.1,junkB g454,.any,.any,.any,.any,.any,.any,.any,.any,.any,.any,.any,.any,.any,.any,.any,.any,.any,.any,.any,.any,.any,.any,.any,.any,.any,.any,.any,.any,.any,.any,.any,.any,.any,.any,.any,.any,.any,.any,.any,.any,.any,.any,.any,.any,.any,.any,.any,.any,.any,.any,.any,.any,.any,.any,.any,.any,.any,.any,.any,.any,.any,.any,.any,.any,.any,.any,.any,.any,.any,.any,.any,.any,.any,.any,.any,.any,.any,.any,.any,.any,.any,.any,.any,.any,.any,.any,.any,.any,.any,.any]∧H=[.cells ((cA .u32) a0),.cells ((cA .u32) (Arr.zero 8)),.cells ((cA .u32) x535.2)]∧loopN (sum_take_B535 a0 y376) d x535=some r) (by kernel_rfl) (fun fr H ⟨x535,g454,e1,e2,hF⟩=>loop_no hF) (fun d535 fr H ⟨x535,g454,e1,e2,hF⟩=>?_) (VS.si [0,2,3] 324518553658426726783156020477899 (tights_at [15] (by kernel_rfl) (by exact ⟨(tight_agg (tights_lows (low_cA _))),trivial⟩)) (sk rfl (sk rfl (sk rfl shh_nil)))) ⟨(0,a0),none,rfl,rfl,hF⟩))))))))
 subst e1 e2
 have hF:=loop_in hF
 refine xq (wh 1 (we (ng (xs ?_))))
 refine ite_elim hF (fun hc2 hF=>?_) (fun hc2 hF=>?_)
 ·refine kT 17 hc2 (xT (xk (ng (xs (xb (xq (wh 1 (bind_elim hF (fun y574 hy574 hF=>w_aidx (kd:=.u32) y376 hy574 (by kernel_rfl) (wh 4 (we (ng (xs (xd 6610038817281 call_ends callMono (bind_elim hF (fun y577 hy577 hF=>w_aaddr (l:=2) (o:=0) hy577 (by kernel_rfl) (w_aload (l:=2) (o:=0) (kd:=.u32) x535.2 hy577 (by kernel_rfl) (by kernel_rfl) (by kernel_rfl) (bind_elim hF (fun y578 hy578 hF=>w_aaddr (l:=2) (o:=0) hy578 (by kernel_rfl) (w_aload (l:=2) (o:=0) (kd:=.u32) x535.2 hy578 (by kernel_rfl) (by kernel_rfl) (by kernel_rfl) (wp 6 (we (de (ng (xs (xd 0 call_ends callMono (bind_elim hF (fun y586 hy586 hF=>w_aaddr (l:=2) (o:=0) hy586 (by kernel_rfl) (w_aload (l:=2) (o:=0) (kd:=.u32) x535.2 hy586 (by kernel_rfl) (by kernel_rfl) (by kernel_rfl) (wp 3 (bind_elim hF (fun y587 hy587 hF=>uC (sum_rot_ev hy587) (lows_cons rfl (lows_cons rfl rfl)) rfl (wp 5 (bind_elim hF (fun y588 hy588 hF=>uC (sum_rot_ev hy588) (lows_cons rfl (lows_cons rfl rfl)) rfl ?_)))))))))))))))))))))))))))))))))))
  refine wp 8 (bind_elim hF (fun y589 hy589 hF=>uC (sum_rot_ev hy589) (lows_cons rfl (lows_cons rfl rfl)) rfl (wp 12 (bind_elim hF (fun y590 hy590 hF=>w_aaddr (l:=2) (o:=0) hy590 (by kernel_rfl) (w_aload (l:=2) (o:=0) (kd:=.u32) x535.2 hy590 (by kernel_rfl) (by kernel_rfl) (by kernel_rfl) (wp 17 (bind_elim hF (fun y591 hy591 hF=>w_aaddr (l:=2) (o:=0) hy591 (by kernel_rfl) (w_aload (l:=2) (o:=0) (kd:=.u32) x535.2 hy591 (by kernel_rfl) (by kernel_rfl) (by kernel_rfl) (wp 23 (bind_elim hF (fun y592 hy592 hF=>w_gaddr (cs:=gv0c) (o:=0) hy592 (by kernel_rfl) (w_gload (cs:=gv0c) (o:=0) (kd:=.u32) gv0 hy592 (by kernel_rfl) (by kernel_rfl) (wp 29 (we (de (ng (xs (xd 0 call_ends callMono (wp 1 (bind_elim hF (fun y600 hy600 hF=>uC (sum_rot_ev hy600) (lows_cons rfl (lows_cons rfl rfl)) rfl (wp 3 (bind_elim hF (fun y601 hy601 hF=>uC (sum_rot_ev hy601) (lows_cons rfl (lows_cons rfl rfl)) rfl (wp 6 (bind_elim hF (fun y602 hy602 hF=>uC (sum_rot_ev hy602) (lows_cons rfl (lows_cons rfl rfl)) rfl (wp 9 (bind_elim hF (fun y603 hy603 hF=>w_aaddr (l:=2) (o:=0) hy603 (by kernel_rfl) (w_aload (l:=2) (o:=0) (kd:=.u32) x535.2 hy603 (by kernel_rfl) (by kernel_rfl) (by kernel_rfl) (wp 13 (bind_elim hF (fun y604 hy604 hF=>w_aaddr (l:=2) (o:=0) hy604 (by kernel_rfl) (w_aload (l:=2) (o:=0) (kd:=.u32) x535.2 hy604 (by kernel_rfl) (by kernel_rfl) (by kernel_rfl) (wp 17 ?_))))))))))))))))))))))))))))))))))))))
  exact bind_elim hF (fun y605 hy605 hF=>w_aaddr (l:=2) (o:=0) hy605 (by kernel_rfl) (w_aload (l:=2) (o:=0) (kd:=.u32) x535.2 hy605 (by kernel_rfl) (by kernel_rfl) (by kernel_rfl) (bind_elim hF (fun y606 hy606 hF=>w_aaddr (l:=2) (o:=0) hy606 (by kernel_rfl) (w_aload (l:=2) (o:=0) (kd:=.u32) x535.2 hy606 (by kernel_rfl) (by kernel_rfl) (by kernel_rfl) (wp 25 (we (de (ng (xr (wh 4 (bind_elim hF (fun y607 hy607 hF=>w_aaddr (l:=2) (o:=0) hy607 (by kernel_rfl) (w_aload (l:=2) (o:=0) (kd:=.u32) x535.2 hy607 (by kernel_rfl) (by kernel_rfl) (by kernel_rfl) (bind_elim hF (fun y608 hy608 hF=>w_aaddr (l:=2) (o:=0) hy608 (by kernel_rfl) (w_aload (l:=2) (o:=0) (kd:=.u32) x535.2 hy608 (by kernel_rfl) (by kernel_rfl) (by kernel_rfl) (bind_elim hF (fun y609 hy609 hF=>w_aaddr (l:=2) (o:=0) hy609 (by kernel_rfl) (w_aload (l:=2) (o:=0) (kd:=.u32) x535.2 hy609 (by kernel_rfl) (by kernel_rfl) (by kernel_rfl) (wh 13 (bind_elim hF (fun y610 hy610 hF=>w_aaddr (l:=2) (o:=0) hy610 (by kernel_rfl) (w_aload (l:=2) (o:=0) (kd:=.u32) x535.2 hy610 (by kernel_rfl) (by kernel_rfl) (by kernel_rfl) (bind_elim hF (fun y611 hy611 hF=>w_aaddr (l:=2) (o:=0) hy611 (by kernel_rfl) (w_aload (l:=2) (o:=0) (kd:=.u32) x535.2 hy611 (by kernel_rfl) (by kernel_rfl) (by kernel_rfl) (wr 19 [.cells ((cA .u32) a0),.cells ((cA .u32) (Arr.zero 8)),.cells ((cA .u32) (⟨[iAdd .u32 (iAdd .u32 (iAdd .u32 (iAdd .u32 (iAdd .u32 (x535.2.at y586) (iXor .u32 (iXor .u32 y587 y588) y589)) (iXor .u32 (iAnd .u32 (x535.2.at y578) (x535.2.at y590)) (iAnd .u32 (iNot .u32 (x535.2.at y578)) (x535.2.at y591)))) (gv0.at y592)) (y376.at y574)) (iAdd .u32 (iXor .u32 (iXor .u32 y600 y601) y602) (iXor .u32 (iXor .u32 (iAnd .u32 (x535.2.at y577) (x535.2.at y603)) (iAnd .u32 (x535.2.at y577) (x535.2.at y604))) (iAnd .u32 (x535.2.at y605) (x535.2.at y606)))),x535.2.at y577,x535.2.at y607,x535.2.at y608,iAdd .u32 (x535.2.at y609) (iAdd .u32 (iAdd .u32 (iAdd .u32 (iAdd .u32 (x535.2.at y586) (iXor .u32 (iXor .u32 y587 y588) y589)) (iXor .u32 (iAnd .u32 (x535.2.at y578) (x535.2.at y590)) (iAnd .u32 (iNot .u32 (x535.2.at y578)) (x535.2.at y591)))) (gv0.at y592)) (y376.at y574)),x535.2.at y578,x535.2.at y610,x535.2.at y611],by rfl⟩ : Arr 8))] (we (block_n (ng (xr (wh 2 (we (then_n (x_back (VS.sm 324518553658426726783156020477899) ⟨(iAdd .i64 x535.1 1,(⟨[iAdd .u32 (iAdd .u32 (iAdd .u32 (iAdd .u32 (iAdd .u32 (x535.2.at y586) (iXor .u32 (iXor .u32 y587 y588) y589)) (iXor .u32 (iAnd .u32 (x535.2.at y578) (x535.2.at y590)) (iAnd .u32 (iNot .u32 (x535.2.at y578)) (x535.2.at y591)))) (gv0.at y592)) (y376.at y574)) (iAdd .u32 (iXor .u32 (iXor .u32 y600 y601) y602) (iXor .u32 (iXor .u32 (iAnd .u32 (x535.2.at y577) (x535.2.at y603)) (iAnd .u32 (x535.2.at y577) (x535.2.at y604))) (iAnd .u32 (x535.2.at y605) (x535.2.at y606)))),x535.2.at y577,x535.2.at y607,x535.2.at y608,iAdd .u32 (x535.2.at y609) (iAdd .u32 (iAdd .u32 (iAdd .u32 (iAdd .u32 (x535.2.at y586) (iXor .u32 (iXor .u32 y587 y588) y589)) (iXor .u32 (iAnd .u32 (x535.2.at y578) (x535.2.at y590)) (iAnd .u32 (iNot .u32 (x535.2.at y578)) (x535.2.at y591)))) (gv0.at y592)) (y376.at y574)),x535.2.at y578,x535.2.at y610,x535.2.at y611],by rfl⟩ : Arr 8)),(some true),rfl,rfl,hF⟩))))))))))))))))))))))))))))))))))))
 exact kF 17 hc2 (xF (xe (then_e (then_e (block_e (then_n (x_to hJ1 (VS.sm 324518553658426726783156020445131) ⟨x535.2,rfl,rfl,hF⟩)))))))
def sum_Sum256_Add_J1 (p45 : Arr 8) (p46 : Arr 64) (p47 : Int) : Option ((Arr 8)×(Arr 64)×Int) :=
  some (p45,p46,p47)
def sum_Sum256_Add_B72  (k72 : ((List UInt8)×(Arr 8)×(Arr 64)×Int)→Option ((Arr 8)×(Arr 64)×Int)) (x72 : (List UInt8)×(Arr 8)×(Arr 64)×Int) : Option ((Arr 8)×(Arr 64)×Int) :=
  if iGt (x72.1.length : Int) 0=true then (cutA 64 (some (iRem x72.2.2.2 64)) none).bind fun y74=>(cutS x72.1 (some ((min x72.1.length y74.2 : Nat) : Int)) none).bind fun y75=>if (iAdd .i64 (iRem x72.2.2.2 64) ((min x72.1.length y74.2 : Nat) : Int)==64)=true then (sum_take x72.2.1 (x72.2.2.1.over y74.1 (intsS (x72.1.take (min x72.1.length y74.2))))).bind fun y78=>k72 (y75,y78,x72.2.2.1.over y74.1 (intsS (x72.1.take (min x72.1.length y74.2))),iAdd .i64 x72.2.2.2 ((min x72.1.length y74.2 : Nat) : Int)) else k72 (y75,x72.2.1,x72.2.2.1.over y74.1 (intsS (x72.1.take (min x72.1.length y74.2))),iAdd .i64 x72.2.2.2 ((min x72.1.length y74.2 : Nat) : Int)) else sum_Sum256_Add_J1 x72.2.1 x72.2.2.1 x72.2.2.2
def sum_Sum256_Add (a0 : List UInt8) (a1 : Sum_Sum256) : Option ((Arr 8)×(Arr 64)×Int) :=
  loopN (sum_Sum256_Add_B72) FUEL (a0,a1.state,a1.part,a1.many)
theorem sum_Sum256_Add_ev {a0 : List UInt8} {a1 : Sum_Sum256} {r : (Arr 8)×(Arr 64)×Int} (hF : sum_Sum256_Add a0 a1=some r) : EvCall Tryz.prog T G0 131 [.ptr 0 0,.str a0] [.cells (cSum_Sum256 a1)] (fun v H'=>v=.bool true∧H'=[.cells ((cA .u32) r.1++(cA .u8) r.2.1++(cI .i64) r.2.2)]):=by
 refine xc Tryz.func131 ?_
 refine xq (wh 1 (we (ng (xs (xq (wh 2 (we (ng (xF (xk (ng ?_)))))))))))
 refine xj (fun fr H=>∃ (p45 : Arr 8) (p46 : Arr 64) (p47 : Int) (g44 : Option Bool),fr=[.any,.any,.any,.any,.bool false,.any,.any,.any,.bool false,.any,.any,.bool false,.any,.any,.any,.any,.any,.any,.any,.any,.any,.any,.any,.any,.any,.any,.any,.any,.any,.any,.any,.any,.any,.any,.any,.any,.any,.any,junkB g44,.any,.any,.any,.any,.any,.any,.any,.any,.any,.any,.any,.any]∧H=[.cells ((cA .u32) p45++(cA .u8) p46++(cI .i64) p47)]∧sum_Sum256_Add_J1 p45 p46 p47=some r) (fun fr H ⟨p45,p46,p47,g44,e1,e2,hF⟩=>?_) (fun hJ1=>?_)
 ·subst e1 e2
  refine xq (wh 1 (we (ng (xt ?_))))
  cases hF
  exact fS [0] (.inl rfl) rfl (sk rfl shh_nil) ⟨rfl,rfl⟩
 refine xb (x_loop (fun d fr H=>∃ (x72 : (List UInt8)×(Arr 8)×(Arr 64)×Int) (g55 : Option Bool) (g56 : Option Bool),fr=[.ptr 0 0,.str x72.1,.any,.any,.bool false,.any,.any,.any,.bool false,.any,.any,junkB g55,.any,.any,.any,.any,.any,.any,.any,.any,.any,.any,.any,.any,.any,.any,.any,.any,.any,.any,.any,.any,.any,.any,.any,.any,.any,.any,junkB g56,.any,.any,.any,.any,.any,.any,.any,.any,.any,.any,.any,.any]∧H=[.cells ((cA .u32) x72.2.1++(cA .u8) x72.2.2.1++(cI .i64) x72.2.2.2)]∧loopN (sum_Sum256_Add_B72) d x72=some r) (by kernel_rfl) (fun fr H ⟨x72,g55,g56,e1,e2,hF⟩=>loop_no hF) (fun d72 fr H ⟨x72,g55,g56,e1,e2,hF⟩=>?_) (VS.sm 2251799813684972) ⟨(a0,a1.state,a1.part,a1.many),none,none,rfl,rfl,hF⟩)
 subst e1 e2
 have hF:=loop_in hF
 refine xs (xq (wh 3 (we (ng ?_))))
 refine ite_elim hF (fun hc1 hF=>?_) (fun hc1 hF=>?_)
 ·refine kT 11 hc1 (xT (xk (ng (xb (xq (wh 6 (we (ng (xq (wh 4 (bind_elim hF (fun y74 hy74 hF=>w_aslice (l:=0) (o:=8) hy74 (fun e73=>(wh 6 (w_acopy (l:=0) (o:=8) (lo:=y74.1) (len:=y74.2) (ex:=e73) (s:=x72.1) x72.2.2.1 (cutA_spec hy74) (wr 8 [.cells ((cA .u32) x72.2.1++(cA .u8) (x72.2.2.1.over y74.1 (intsS (x72.1.take (min x72.1.length y74.2))))++(cI .i64) x72.2.2.2)] (we (ng (xq (wr 9 [.cells ((cA .u32) x72.2.1++(cA .u8) (x72.2.2.1.over y74.1 (intsS (x72.1.take (min x72.1.length y74.2))))++(cI .i64) (iAdd .i64 x72.2.2.2 ((min x72.1.length y74.2 : Nat) : Int)))] (we (ng (xq (wh 2 (bind_elim hF (fun y75 hy75 hF=>w_cut (by kernel_rfl) hy75 (wh 4 (we (ng (xq (wh 4 (we ?_))))))))))))))))))))))))))))))))
  refine ng ?_
  refine ite_elim hF (fun hc2 hF=>?_) (fun hc2 hF=>?_)
  ·exact kT 38 hc2 (xT (x_rows 0 4095 [⟨12,[],[],[],[]⟩] call_ends callMono (by kernel_rfl) (by kernel_rfl) (wp 9 (bind_elim hF (fun y78 hy78 hF=>uC (sum_take_ev hy78) (lows_cons (low_agg (low_cA _)) (lows_cons (low_agg (low_cA _)) rfl)) (low_agg (low_cA _)) (wp 12 (we (rows_next (wr 1 [.cells ((cA .u32) y78++(cA .u8) (x72.2.2.1.over y74.1 (intsS (x72.1.take (min x72.1.length y74.2))))++(cI .i64) (iAdd .i64 x72.2.2.2 ((min x72.1.length y74.2 : Nat) : Int)))] (we (⟨⟨(by kernel_rfl),trivial⟩,(we (rows_done (de (block_n (then_n (x_back (VS.sm 2251799813684972) ⟨(y75,y78,x72.2.2.1.over y74.1 (intsS (x72.1.take (min x72.1.length y74.2))),iAdd .i64 x72.2.2.2 ((min x72.1.length y74.2 : Nat) : Int)),(some true),(some true),rfl,rfl,hF⟩))))))⟩)))))))))))
  exact kF 38 hc2 (xF (xk (block_n (then_n (x_back (VS.sm 2251799813684972) ⟨(y75,x72.2.1,x72.2.2.1.over y74.1 (intsS (x72.1.take (min x72.1.length y74.2))),iAdd .i64 x72.2.2.2 ((min x72.1.length y74.2 : Nat) : Int)),(some true),(some false),rfl,rfl,hF⟩)))))
 exact kF 11 hc1 (xF (xe (then_e (then_e (block_e (then_n (x_to hJ1 (VS.sm 2251524935775983) ⟨x72.2.1,x72.2.2.1,x72.2.2.2,g56,rfl,rfl,hF⟩)))))))
def sum_Sum256_Add_2_J1 (p113 : Arr 8) (p114 : Arr 64) (p115 : Int) : Option ((Arr 8)×(Arr 64)×Int) :=
  some (p113,p114,p115)
def sum_Sum256_Add_2_B140  (k140 : ((List UInt8)×(Arr 8)×(Arr 64)×Int)→Option ((Arr 8)×(Arr 64)×Int)) (x140 : (List UInt8)×(Arr 8)×(Arr 64)×Int) : Option ((Arr 8)×(Arr 64)×Int) :=
  if iGt (x140.1.length : Int) 0=true then (cutA 64 (some (iRem x140.2.2.2 64)) none).bind fun y142=>(cutS x140.1 (some ((min x140.1.length y142.2 : Nat) : Int)) none).bind fun y143=>if (iAdd .i64 (iRem x140.2.2.2 64) ((min x140.1.length y142.2 : Nat) : Int)==64)=true then (sum_take x140.2.1 (x140.2.2.1.over y142.1 (intsS (x140.1.take (min x140.1.length y142.2))))).bind fun y146=>k140 (y143,y146,x140.2.2.1.over y142.1 (intsS (x140.1.take (min x140.1.length y142.2))),iAdd .i64 x140.2.2.2 ((min x140.1.length y142.2 : Nat) : Int)) else k140 (y143,x140.2.1,x140.2.2.1.over y142.1 (intsS (x140.1.take (min x140.1.length y142.2))),iAdd .i64 x140.2.2.2 ((min x140.1.length y142.2 : Nat) : Int)) else sum_Sum256_Add_2_J1 x140.2.1 x140.2.2.1 x140.2.2.2
def sum_Sum256_Add_2 (a0 : List UInt8) (a1 : Arr 8) (a2 : Arr 64) (a3 : Int) : Option ((Arr 8)×(Arr 64)×Int) :=
  loopN (sum_Sum256_Add_2_B140) FUEL (a0,a1,a2,a3)
theorem sum_Sum256_Add_2_ev {a0 : List UInt8} {a1 : Arr 8} {a2 : Arr 64} {a3 : Int} {r : (Arr 8)×(Arr 64)×Int} (hF : sum_Sum256_Add_2 a0 a1 a2 a3=some r) : EvCall Tryz.prog T G0 131 [.ptr 0 0,.str a0] [.cells ((cA .u32) a1++(cA .u8) a2++(cI .i64) a3)] (fun v H'=>v=.bool true∧H'=[.cells ((cA .u32) r.1++(cA .u8) r.2.1++(cI .i64) r.2.2)]):=by
 refine xc Tryz.func131 ?_
 refine xq (wh 1 (we (ng (xs (xq (wh 2 (we (ng (xF (xk (ng ?_)))))))))))
 refine xj (fun fr H=>∃ (p113 : Arr 8) (p114 : Arr 64) (p115 : Int) (g112 : Option Bool),fr=[.any,.any,.any,.any,.bool false,.any,.any,.any,.bool false,.any,.any,.bool false,.any,.any,.any,.any,.any,.any,.any,.any,.any,.any,.any,.any,.any,.any,.any,.any,.any,.any,.any,.any,.any,.any,.any,.any,.any,.any,junkB g112,.any,.any,.any,.any,.any,.any,.any,.any,.any,.any,.any,.any]∧H=[.cells ((cA .u32) p113++(cA .u8) p114++(cI .i64) p115)]∧sum_Sum256_Add_2_J1 p113 p114 p115=some r) (fun fr H ⟨p113,p114,p115,g112,e1,e2,hF⟩=>?_) (fun hJ1=>?_)
 ·subst e1 e2
  refine xq (wh 1 (we (ng (xt ?_))))
  cases hF
  exact fS [0] (.inl rfl) rfl (sk rfl shh_nil) ⟨rfl,rfl⟩
 refine xb (x_loop (fun d fr H=>∃ (x140 : (List UInt8)×(Arr 8)×(Arr 64)×Int) (g123 : Option Bool) (g124 : Option Bool),fr=[.ptr 0 0,.str x140.1,.any,.any,.bool false,.any,.any,.any,.bool false,.any,.any,junkB g123,.any,.any,.any,.any,.any,.any,.any,.any,.any,.any,.any,.any,.any,.any,.any,.any,.any,.any,.any,.any,.any,.any,.any,.any,.any,.any,junkB g124,.any,.any,.any,.any,.any,.any,.any,.any,.any,.any,.any,.any]∧H=[.cells ((cA .u32) x140.2.1++(cA .u8) x140.2.2.1++(cI .i64) x140.2.2.2)]∧loopN (sum_Sum256_Add_2_B140) d x140=some r) (by kernel_rfl) (fun fr H ⟨x140,g123,g124,e1,e2,hF⟩=>loop_no hF) (fun d140 fr H ⟨x140,g123,g124,e1,e2,hF⟩=>?_) (VS.sm 2251799813684972) ⟨(a0,a1,a2,a3),none,none,rfl,rfl,hF⟩)
 subst e1 e2
 have hF:=loop_in hF
 refine xs (xq (wh 3 (we (ng ?_))))
 refine ite_elim hF (fun hc1 hF=>?_) (fun hc1 hF=>?_)
 ·refine kT 11 hc1 (xT (xk (ng (xb (xq (wh 6 (we (ng (xq (wh 4 (bind_elim hF (fun y142 hy142 hF=>w_aslice (l:=0) (o:=8) hy142 (fun e141=>(wh 6 (w_acopy (l:=0) (o:=8) (lo:=y142.1) (len:=y142.2) (ex:=e141) (s:=x140.1) x140.2.2.1 (cutA_spec hy142) (wr 8 [.cells ((cA .u32) x140.2.1++(cA .u8) (x140.2.2.1.over y142.1 (intsS (x140.1.take (min x140.1.length y142.2))))++(cI .i64) x140.2.2.2)] (we (ng (xq (wr 9 [.cells ((cA .u32) x140.2.1++(cA .u8) (x140.2.2.1.over y142.1 (intsS (x140.1.take (min x140.1.length y142.2))))++(cI .i64) (iAdd .i64 x140.2.2.2 ((min x140.1.length y142.2 : Nat) : Int)))] (we (ng (xq (wh 2 (bind_elim hF (fun y143 hy143 hF=>w_cut (by kernel_rfl) hy143 (wh 4 (we (ng (xq (wh 4 (we ?_))))))))))))))))))))))))))))))))
  refine ng ?_
  refine ite_elim hF (fun hc2 hF=>?_) (fun hc2 hF=>?_)
  ·exact kT 38 hc2 (xT (x_rows 0 4095 [⟨12,[],[],[],[]⟩] call_ends callMono (by kernel_rfl) (by kernel_rfl) (wp 9 (bind_elim hF (fun y146 hy146 hF=>uC (sum_take_ev hy146) (lows_cons (low_agg (low_cA _)) (lows_cons (low_agg (low_cA _)) rfl)) (low_agg (low_cA _)) (wp 12 (we (rows_next (wr 1 [.cells ((cA .u32) y146++(cA .u8) (x140.2.2.1.over y142.1 (intsS (x140.1.take (min x140.1.length y142.2))))++(cI .i64) (iAdd .i64 x140.2.2.2 ((min x140.1.length y142.2 : Nat) : Int)))] (we (⟨⟨(by kernel_rfl),trivial⟩,(we (rows_done (de (block_n (then_n (x_back (VS.sm 2251799813684972) ⟨(y143,y146,x140.2.2.1.over y142.1 (intsS (x140.1.take (min x140.1.length y142.2))),iAdd .i64 x140.2.2.2 ((min x140.1.length y142.2 : Nat) : Int)),(some true),(some true),rfl,rfl,hF⟩))))))⟩)))))))))))
  exact kF 38 hc2 (xF (xk (block_n (then_n (x_back (VS.sm 2251799813684972) ⟨(y143,x140.2.1,x140.2.2.1.over y142.1 (intsS (x140.1.take (min x140.1.length y142.2))),iAdd .i64 x140.2.2.2 ((min x140.1.length y142.2 : Nat) : Int)),(some true),(some false),rfl,rfl,hF⟩)))))
 exact kF 11 hc1 (xF (xe (then_e (then_e (block_e (then_n (x_to hJ1 (VS.sm 2251524935775983) ⟨x140.2.1,x140.2.2.1,x140.2.2.2,g124,rfl,rfl,hF⟩)))))))
def sum_Sum256_Sum_J6 (p259 : Arr 32) : Option (Arr 32) :=
  some p259
def sum_Sum256_Sum_J9 (k350 : (Int×(Arr 32))→Option (Arr 32)) (x350 : Int×(Arr 32)) (p371 : Arr 32) : Option (Arr 32) :=
  k350 (iAdd .i64 x350.1 1,p371)
def sum_Sum256_Sum_B387 (p123 : Arr 8) (k350 : (Int×(Arr 32))→Option (Arr 32)) (x350 : Int×(Arr 32)) (y372 : Nat) (k387 : (Int×(Arr 32))→Option (Arr 32)) (x387 : Int×(Arr 32)) : Option (Arr 32) :=
  if iLt x387.1 4=true then (shrI .u32 (p123.at y372) (iSub .i64 24 (iMul .i64 8 x387.1))).bind fun y390=>(idxN 32 (iAdd .i64 (iMul .i64 4 x350.1) x387.1)).bind fun y391=>k387 (iAdd .i64 x387.1 1,x387.2.set y391 (IntKind.wrap .u8 y390)) else sum_Sum256_Sum_J9 k350 x350 x387.2
def sum_Sum256_Sum_B350 (p123 : Arr 8) (k350 : (Int×(Arr 32))→Option (Arr 32)) (x350 : Int×(Arr 32)) : Option (Arr 32) :=
  if iLt x350.1 8=true then (idxN 8 x350.1).bind fun y372=>loopN (sum_Sum256_Sum_B387 p123 k350 x350 y372) FUEL (0,x350.2) else sum_Sum256_Sum_J6 x350.2
def sum_Sum256_Sum_J2 (p123 : Arr 8) (p124 : Arr 64) (p125 : Int) : Option (Arr 32) :=
  loopN (sum_Sum256_Sum_B350 p123) FUEL (0,(Arr.zero 32))
def sum_Sum256_Sum_B410 (a2 : Int) (k410 : (Int×(Arr 8)×(Arr 64)×Int)→Option (Arr 32)) (x410 : Int×(Arr 8)×(Arr 64)×Int) : Option (Arr 32) :=
  if iGe x410.1 0=true then (shrI .u64 (iMul .u64 (IntKind.wrap .u64 a2) 8) x410.1).bind fun y413=>(sum_Sum256_Add_2 (bytesS (⟨false,true,[IntKind.wrap .u8 y413]⟩ : Sl Int).l) x410.2.1 x410.2.2.1 x410.2.2.2).bind fun y414=>k410 (iSub .i64 x410.1 8,y414.1,y414.2.1,y414.2.2) else sum_Sum256_Sum_J2 x410.2.1 x410.2.2.1 x410.2.2.2
def sum_Sum256_Sum_J1 (a2 : Int) (p96 : Arr 8) (p97 : Arr 64) (p98 : Int) : Option (Arr 32) :=
  loopN (sum_Sum256_Sum_B410 a2) FUEL (56,p96,p97,p98)
def sum_Sum256_Sum_B427 (a2 : Int) (k427 : ((Arr 8)×(Arr 64)×Int)→Option (Arr 32)) (x427 : (Arr 8)×(Arr 64)×Int) : Option (Arr 32) :=
  if (iRem x427.2.2 64 != 56)=true then (sum_Sum256_Add_2 [0] x427.1 x427.2.1 x427.2.2).bind fun y428=>k427 (y428.1,y428.2.1,y428.2.2) else sum_Sum256_Sum_J1 a2 x427.1 x427.2.1 x427.2.2
def sum_Sum256_Sum (a0 : Arr 8) (a1 : Arr 64) (a2 : Int) : Option (Arr 32) :=
  (sum_Sum256_Add [128] (⟨a0,a1,a2⟩ : Sum_Sum256)).bind fun y80=>loopN (sum_Sum256_Sum_B427 a2) FUEL (y80.1,y80.2.1,y80.2.2)
theorem sum_Sum256_Sum_ev {a0 : Arr 8} {a1 : Arr 64} {a2 : Int} {r : (Arr 32)} (hF : sum_Sum256_Sum a0 a1 a2=some r) : EvCall Tryz.prog T G0 133 [.ptr 0 0] [.cells ((cA .u32) a0++(cA .u8) a1++(cI .i64) a2)] (fun v H'=>v=.agg ((cA .u8) r)∧H'=[.cells ((cA .u32) a0++(cA .u8) a1++(cI .i64) a2)]):=by
 refine xc Tryz.func133 ?_
 refine xq (wr 1 [.cells ((cA .u32) a0++(cA .u8) a1++(cI .i64) a2),.cells ((cA .u8) (Arr.zero 32))] (we (ng (xq (wr 1 [.cells ((cA .u32) a0++(cA .u8) a1++(cI .i64) a2),.cells ((cA .u8) (Arr.zero 32)),.cells ((cA .u8) (Arr.zero 32))] (we (ng (xs (xq (wh 2 (we (ng (xF (xk (ng (xq (wr 5 [.cells ((cA .u32) a0++(cA .u8) a1++(cI .i64) a2),.cells ((cA .u8) (Arr.zero 32)),.cells ((cA .u8) (Arr.zero 32)),.cells (cSum_Sum256 (⟨a0,a1,a2⟩ : Sum_Sum256))] (we (ng (xq (wh 7 (we (ng (xq (bind_elim hF (fun y80 hy80 hF=>uO [3] [3] (v:=.bool true) [.cells ((cA .u32) y80.1++(cA .u8) y80.2.1++(cI .i64) y80.2.2)] [.cells ((cA .u32) a0++(cA .u8) a1++(cI .i64) a2),.cells ((cA .u8) (Arr.zero 32)),.cells ((cA .u8) (Arr.zero 32)),.cells ((cA .u32) y80.1++(cA .u8) y80.2.1++(cI .i64) y80.2.2)] (sum_Sum256_Add_ev hy80) (by kernel_rfl) (pl (b':=.cells (cSum_Sum256 (⟨a0,a1,a2⟩ : Sum_Sum256))) (by kernel_rfl) (sb_cells (by kernel_rfl) (by kernel_rfl) (by kernel_rfl)) pl_nil) rfl (sbs (sb_cells (by kernel_rfl) (by kernel_rfl) (by kernel_rfl)) sbs_nil) (we (ng ?_))))))))))))))))))))))))))))
 refine xj (fun fr H=>∃ (p96 : Arr 8) (p97 : Arr 64) (p98 : Int) (g95 : Option Bool),fr=[.any,.any,.ptr 1 0,.ptr 2 0,.ptr 3 0,.int .u64 (iMul .u64 (IntKind.wrap .u64 a2) 8),.any,.any,.any,.any,.any,.bool false,.any,.any,.any,.any,.any,.any,.any,.any,.any,.any,.bool true,.any,.any,.any,.bool false,junkB g95,.any,.any,.any,.any,.any,.any,.any,.any,.any,.any,.any,.any,.any,.any,.any,.any,.any,.any,.any,.any,.any,.any,.any,.any,.any,.any,.any,.any,.any,.any,.any,.any,.any,.any]∧H=[.cells ((cA .u32) a0++(cA .u8) a1++(cI .i64) a2),.cells ((cA .u8) (Arr.zero 32)),.cells ((cA .u8) (Arr.zero 32)),.cells ((cA .u32) p96++(cA .u8) p97++(cI .i64) p98)]∧sum_Sum256_Sum_J1 a2 p96 p97 p98=some r) (fun fr H ⟨p96,p97,p98,g95,e1,e2,hF⟩=>?_) (fun hJ1=>?_)
 ·subst e1 e2
  refine xj (fun fr H=>∃ (p123 : Arr 8) (p124 : Arr 64) (p125 : Int) (g122 : Option Bool),fr=[.any,.any,.ptr 1 0,.ptr 2 0,.ptr 3 0,.any,.any,.any,.any,.any,.any,.bool false,.any,.any,.any,.any,.any,.any,.any,.any,.any,.any,.bool true,.any,.any,.any,.bool false,junkB g95,.any,.bool false,.any,.any,.any,.any,.any,.any,.any,.any,junkB g122,.any,.any,.any,.any,.any,.any,.any,.any,.any,.any,.any,.any,.any,.any,.any,.any,.any,.any,.any,.any,.any,.any,.any]∧H=[.cells ((cA .u32) a0++(cA .u8) a1++(cI .i64) a2),.cells ((cA .u8) (Arr.zero 32)),.cells ((cA .u8) (Arr.zero 32)),.cells ((cA .u32) p123++(cA .u8) p124++(cI .i64) p125)]∧sum_Sum256_Sum_J2 p123 p124 p125=some r) (fun fr H ⟨p123,p124,p125,g122,e1,e2,hF⟩=>?_) (fun hJ2=>?_)
  ·subst e1 e2
   refine xj (fun fr H=>∃ (p259 : Arr 32) (g258 : Option Bool),fr=[.any,.any,.ptr 1 0,.ptr 2 0,.any,.any,.any,.any,.any,.any,.any,.bool false,.any,.any,.any,.any,.any,.any,.any,.any,.any,.any,.bool true,.any,.any,.any,.bool false,junkB g95,.any,.bool false,.any,.any,.any,.any,.any,.any,.any,.any,junkB g122,.any,.any,.any,.bool false,.any,.any,.any,junkB g258,.any,.any,.any,.any,.any,.any,.any,.any,.any,.any,.any,.any,.any,.any,.any]∧H=[.cells ((cA .u32) a0++(cA .u8) a1++(cI .i64) a2),.cells ((cA .u8) (Arr.zero 32)),.cells ((cA .u8) p259)]∧sum_Sum256_Sum_J6 p259=some r) (fun fr H ⟨p259,g258,e1,e2,hF⟩=>?_) (fun hJ6=>?_)
   ·subst e1 e2
    refine xq (wr 2 [.cells ((cA .u32) a0++(cA .u8) a1++(cI .i64) a2),.cells ((cA .u8) p259),.cells ((cA .u8) p259)] (we (ng (xt ?_))))
    cases hF
    exact fS [0] (.inl rfl) (tight_agg (tights_lows (low_cA _))) (sk rfl shh_nil) ⟨rfl,rfl⟩
   refine xq (wh 3 (we (ng (xb (x_loop (fun d fr H=>∃ (x350 : Int×(Arr 32)) (g302 : Option Bool) (g303 : Option Bool),fr=[.any,.any,.ptr 1 0,.ptr 2 0,.any,.any,.any,.any,.any,.any,.any,.bool false,.any,.any,.any,.any,.any,.any,.any,.any,.any,.any,.bool true,.any,.any,.any,.bool false,junkB g95,.any,.bool false,.any,.any,.any,.any,.any,.any,.any,.any,junkB g122,.any,.agg ((cA .u32) p123),.int .i64 x350.1,junkB g302,.any,.any,.any,junkB g303,.any,.any,.any,.any,.any,.any,.any,.any,.any,.any,.any,.any,.any,.any,.any]∧H=[.cells ((cA .u32) a0++(cA .u8) a1++(cI .i64) a2),.cells ((cA .u8) (Arr.zero 32)),.cells ((cA .u8) x350.2)]∧loopN (sum_Sum256_Sum_B350 p123) d x350=some r) (by kernel_rfl) (fun fr H ⟨x350,g302,g303,e1,e2,hF⟩=>loop_no hF) (fun d350 fr H ⟨x350,g302,g303,e1,e2,hF⟩=>?_) (VS.shX [0,1,2] 4611682444272203763 [27,38] (by kernel_rfl) (by kernel_rfl) (by kernel_rfl) (by exact ⟨low_junk g95,low_junk g122,trivial⟩) (tights_at [27,38,40] (by kernel_rfl) (by exact ⟨(tight_junk g95),(tight_junk g122),(tight_agg (tights_lows (low_cA _))),trivial⟩)) (sk rfl (sk rfl (sk rfl shh_nil)))) ⟨(0,(Arr.zero 32)),none,none,rfl,rfl,hF⟩)))))
   subst e1 e2
   have hF:=loop_in hF
   refine xq (wh 1 (we (ng (xs ?_))))
   refine ite_elim hF (fun hc1 hF=>?_) (fun hc1 hF=>?_)
   ·refine kT 42 hc1 (xT (xk (ng ?_)))
    refine xj (fun fr H=>∃ (p371 : Arr 32),fr=[.any,.any,.ptr 1 0,.ptr 2 0,.any,.any,.any,.any,.any,.any,.any,.bool false,.any,.any,.any,.any,.any,.any,.any,.any,.any,.any,.bool true,.any,.any,.any,.bool false,junkB g95,.any,.bool false,.any,.any,.any,.any,.any,.any,.any,.any,junkB g122,.any,.agg ((cA .u32) p123),.int .i64 x350.1,.bool true,.any,.any,.any,.bool false,.any,.any,.any,.any,.any,.any,.any,.any,.any,.any,.any,.any,.any,.any,.any]∧H=[.cells ((cA .u32) a0++(cA .u8) a1++(cI .i64) a2),.cells ((cA .u8) (Arr.zero 32)),.cells ((cA .u8) p371)]∧sum_Sum256_Sum_J9 (loopN (sum_Sum256_Sum_B350 p123) d350) x350 p371=some r) (fun fr H ⟨p371,e1,e2,hF⟩=>?_) (fun hJ9=>?_)
    ·subst e1 e2
     exact xr (wh 2 (we (then_n (x_back (VS.sm 4611682444272203763) ⟨(iAdd .i64 x350.1 1,p371),(some true),(some false),rfl,rfl,hF⟩))))
    refine xb (xq (wh 1 (bind_elim hF (fun y372 hy372 hF=>w_aidx (kd:=.u32) p123 hy372 (by kernel_rfl) (wh 4 (we (ng (xq (wh 1 (we (ng (xb (x_loop (fun d fr H=>∃ (x387 : Int×(Arr 32)) (g378 : Option Bool),fr=[.any,.any,.ptr 1 0,.ptr 2 0,.any,.any,.any,.int .i64 x350.1,.int .u32 (p123.at y372),.any,.any,.bool false,.any,.any,.any,.any,.any,.any,.any,.any,.any,.any,.bool true,.any,.any,.any,.bool false,junkB g95,.any,.bool false,.any,.any,.any,.any,.any,.any,.any,.any,junkB g122,.any,.agg ((cA .u32) p123),.int .i64 x350.1,.bool true,.any,.any,.int .i64 x387.1,junkB g378,.any,.any,.any,.any,.any,.any,.any,.any,.any,.any,.any,.any,.any,.any,.any]∧H=[.cells ((cA .u32) a0++(cA .u8) a1++(cI .i64) a2),.cells ((cA .u8) (Arr.zero 32)),.cells ((cA .u8) x387.2)]∧loopN (sum_Sum256_Sum_B387 p123 (loopN (sum_Sum256_Sum_B350 p123) d350) x350 y372) d x387=some r) (by kernel_rfl) (fun fr H ⟨x387,g378,e1,e2,hF⟩=>loop_no hF) (fun d387 fr H ⟨x387,g378,e1,e2,hF⟩=>?_) (VS.sm 4611572493109425779) ⟨(0,x350.2),g303,rfl,rfl,hF⟩)))))))))))))
    subst e1 e2
    have hF:=loop_in hF
    refine xq (wh 1 (we (ng (xs ?_))))
    refine ite_elim hF (fun hc2 hF=>?_) (fun hc2 hF=>?_)
    ·exact kT 46 hc2 (xT (xk (ng (xs (xb (xq (wh 2 (we (ng (xr (wh 8 (bind_elim hF (fun y390 hy390 hF=>w_shr (by kernel_rfl) hy390 (wh 10 (bind_elim hF (fun y391 hy391 hF=>w_aaddr (l:=2) (o:=0) hy391 (by kernel_rfl) (w_astore (l:=2) (o:=0) (kd:=.u8) (v:=IntKind.wrap .u8 y390) x387.2 hy391 (by kernel_rfl) (by kernel_rfl) (by kernel_rfl) (we (block_n (ng (xr (wr 2 [.cells ((cA .u32) a0++(cA .u8) a1++(cI .i64) a2),.cells ((cA .u8) (Arr.zero 32)),.cells ((cA .u8) (x387.2.set y391 (IntKind.wrap .u8 y390)))] (we (then_n (x_back (VS.sm 4611642861853603443) ⟨(iAdd .i64 x387.1 1,x387.2.set y391 (IntKind.wrap .u8 y390)),(some true),rfl,rfl,hF⟩)))))))))))))))))))))))))
    exact kF 46 hc2 (xF (xe (then_e (then_e (block_e (block_n (then_n (x_to hJ9 (VS.sm 4611607677481514995) ⟨x387.2,rfl,rfl,hF⟩))))))))
   exact kF 42 hc1 (xF (xe (then_e (then_e (block_e (then_n (x_to hJ6 (VS.sm 4611610976016398323) ⟨x350.2,g303,rfl,rfl,hF⟩)))))))
  refine xq (wh 1 (we (ng (xb (x_loop (fun d fr H=>∃ (x410 : Int×(Arr 8)×(Arr 64)×Int) (g395 : Option Bool) (g396 : Option Bool),fr=[.any,.any,.ptr 1 0,.ptr 2 0,.ptr 3 0,.int .u64 (iMul .u64 (IntKind.wrap .u64 a2) 8),.int .i64 x410.1,.any,.any,.any,.any,.bool false,.any,.any,.any,.any,.any,.any,.any,.any,.any,.any,.bool true,.any,.any,.any,.bool false,junkB g95,.any,junkB g395,.any,.any,.any,.any,.any,.any,.any,.any,junkB g396,.any,.any,.any,.any,.any,.any,.any,.any,.any,.any,.any,.any,.any,.any,.any,.any,.any,.any,.any,.any,.any,.any,.any]∧H=[.cells ((cA .u32) a0++(cA .u8) a1++(cI .i64) a2),.cells ((cA .u8) (Arr.zero 32)),.cells ((cA .u8) (Arr.zero 32)),.cells ((cA .u32) x410.2.1++(cA .u8) x410.2.2.1++(cI .i64) x410.2.2.2)]∧loopN (sum_Sum256_Sum_B410 a2) d x410=some r) (by kernel_rfl) (fun fr H ⟨x410,g395,g396,e1,e2,hF⟩=>loop_no hF) (fun d410 fr H ⟨x410,g395,g396,e1,e2,hF⟩=>?_) (VS.sm 4611686018221864835) ⟨(56,p96,p97,p98),none,none,rfl,rfl,hF⟩)))))
  subst e1 e2
  have hF:=loop_in hF
  refine xs (xq (wh 2 (we (ng ?_))))
  refine ite_elim hF (fun hc3 hF=>?_) (fun hc3 hF=>?_)
  ·exact kT 29 hc3 (xT (xk (ng (xs (xb (xr (wh 2 (bind_elim hF (fun y413 hy413 hF=>w_shr (by kernel_rfl) hy413 (wh 4 (w_frz (v:=sl (cI .u8) (⟨false,true,[IntKind.wrap .u8 y413]⟩ : Sl Int)) (by kernel_rfl) (w_str (l:=(⟨false,true,[IntKind.wrap .u8 y413]⟩ : Sl Int).l) (by kernel_rfl) (bind_elim hF (fun y414 hy414 hF=>uO [3] [3] (v:=.bool true) [.cells ((cA .u32) y414.1++(cA .u8) y414.2.1++(cI .i64) y414.2.2)] [.cells ((cA .u32) a0++(cA .u8) a1++(cI .i64) a2),.cells ((cA .u8) (Arr.zero 32)),.cells ((cA .u8) (Arr.zero 32)),.cells ((cA .u32) y414.1++(cA .u8) y414.2.1++(cI .i64) y414.2.2)] (sum_Sum256_Add_2_ev hy414) (by kernel_rfl) (pl (b':=.cells ((cA .u32) x410.2.1++(cA .u8) x410.2.2.1++(cI .i64) x410.2.2.2)) (by kernel_rfl) (sb_cells (by kernel_rfl) (by kernel_rfl) (by kernel_rfl)) pl_nil) rfl (sbs (sb_cells (by kernel_rfl) (by kernel_rfl) (by kernel_rfl)) sbs_nil) (we (block_n (ng (xr (wh 3 (we (then_n (x_back (VS.sm 4611686018221864835) ⟨(iSub .i64 x410.1 8,y414.1,y414.2.1,y414.2.2),(some true),(some true),rfl,rfl,hF⟩))))))))))))))))))))))
  exact kF 29 hc3 (xF (xe (then_e (then_e (block_e (then_n (x_to hJ2 (VS.sm 4611685742807087075) ⟨x410.2.1,x410.2.2.1,x410.2.2.2,g396,rfl,rfl,hF⟩)))))))
 refine xb (x_loop (fun d fr H=>∃ (x427 : (Arr 8)×(Arr 64)×Int) (g416 : Option Bool) (g417 : Option Bool),fr=[.any,.any,.ptr 1 0,.ptr 2 0,.ptr 3 0,.int .u64 (iMul .u64 (IntKind.wrap .u64 a2) 8),.any,.any,.any,.any,.any,.bool false,.any,.any,.any,.any,.any,.any,.any,.any,.any,.any,.bool true,.any,.any,.any,junkB g416,junkB g417,.any,.any,.any,.any,.any,.any,.any,.any,.any,.any,.any,.any,.any,.any,.any,.any,.any,.any,.any,.any,.any,.any,.any,.any,.any,.any,.any,.any,.any,.any,.any,.any,.any,.any]∧H=[.cells ((cA .u32) a0++(cA .u8) a1++(cI .i64) a2),.cells ((cA .u8) (Arr.zero 32)),.cells ((cA .u8) (Arr.zero 32)),.cells ((cA .u32) x427.1++(cA .u8) x427.2.1++(cI .i64) x427.2.2)]∧loopN (sum_Sum256_Sum_B427 a2) d x427=some r) (by kernel_rfl) (fun fr H ⟨x427,g416,g417,e1,e2,hF⟩=>loop_no hF) (fun d427 fr H ⟨x427,g416,g417,e1,e2,hF⟩=>?_) (VS.sm 4611686018423191491) ⟨(y80.1,y80.2.1,y80.2.2),none,none,rfl,rfl,hF⟩)
 subst e1 e2
 have hF:=loop_in hF
 refine xs (xq (wh 4 (we (ng ?_))))
 refine ite_elim hF (fun hc4 hF=>?_) (fun hc4 hF=>?_)
 ·exact kT 26 hc4 (xT (xk (ng (xb (xr (bind_elim hF (fun y428 hy428 hF=>uO [3] [3] (v:=.bool true) [.cells ((cA .u32) y428.1++(cA .u8) y428.2.1++(cI .i64) y428.2.2)] [.cells ((cA .u32) a0++(cA .u8) a1++(cI .i64) a2),.cells ((cA .u8) (Arr.zero 32)),.cells ((cA .u8) (Arr.zero 32)),.cells ((cA .u32) y428.1++(cA .u8) y428.2.1++(cI .i64) y428.2.2)] (sum_Sum256_Add_2_ev hy428) (by kernel_rfl) (pl (b':=.cells ((cA .u32) x427.1++(cA .u8) x427.2.1++(cI .i64) x427.2.2)) (by kernel_rfl) (sb_cells (by kernel_rfl) (by kernel_rfl) (by kernel_rfl)) pl_nil) rfl (sbs (sb_cells (by kernel_rfl) (by kernel_rfl) (by kernel_rfl)) sbs_nil) (we (block_n (then_n (x_back (VS.sm 4611686018423191491) ⟨(y428.1,y428.2.1,y428.2.2),(some true),(some true),rfl,rfl,hF⟩)))))))))))
 exact kF 26 hc4 (xF (xe (then_e (then_e (block_e (then_n (x_to hJ1 (VS.sm 4611686018221864899) ⟨x427.1,x427.2.1,x427.2.2,g417,rfl,rfl,hF⟩)))))))
def sum_Sum (a0 : List UInt8) : Option (Arr 32) :=
  (sum_New).bind fun y12=>(sum_Sum256_Add a0 y12).bind fun y13=>(sum_Sum256_Sum y13.1 y13.2.1 y13.2.2).bind fun y14=>some y14
theorem sum_Sum_ev {a0 : List UInt8} {r : (Arr 32)} (hF : sum_Sum a0=some r) : EvCall Tryz.prog T G0 132 [.str a0] [] (fun v H'=>v=.agg ((cA .u8) r)∧H'=[]):=by
 refine xc Tryz.func132 ?_
 refine xq (wr 1 [.cells ((cA .u8) (Arr.zero 32))] (we (ng (xq (bind_elim hF (fun y12 hy12 hF=>uO [] [1] (v:=.ptr 1 0) [.cells (cSum_Sum256 y12)] [.cells ((cA .u8) (Arr.zero 32)),.cells (cSum_Sum256 y12)] (sum_New_ev hy12) (by kernel_rfl) pl_nil rfl (sbs (sb_cells (by kernel_rfl) (by kernel_rfl) (by kernel_rfl)) sbs_nil) (wh 2 (we (ng (xq (wh 2 (bind_elim hF (fun y13 hy13 hF=>uO [1] [1] (v:=.bool true) [.cells ((cA .u32) y13.1++(cA .u8) y13.2.1++(cI .i64) y13.2.2)] [.cells ((cA .u8) (Arr.zero 32)),.cells ((cA .u32) y13.1++(cA .u8) y13.2.1++(cI .i64) y13.2.2)] (sum_Sum256_Add_ev hy13) (by kernel_rfl) (pl (b':=.cells (cSum_Sum256 y12)) (by kernel_rfl) (sb_cells (by kernel_rfl) (by kernel_rfl) (by kernel_rfl)) pl_nil) rfl (sbs (sb_cells (by kernel_rfl) (by kernel_rfl) (by kernel_rfl)) sbs_nil) (we (ng (xq (wh 1 (bind_elim hF (fun y14 hy14 hF=>uOs [1] [1] (v:=.agg ((cA .u8) y14)) [.cells ((cA .u32) y13.1++(cA .u8) y13.2.1++(cI .i64) y13.2.2)] (sum_Sum256_Sum_ev hy14) (by kernel_rfl) (pl (b':=.cells ((cA .u32) y13.1++(cA .u8) y13.2.1++(cI .i64) y13.2.2)) (by kernel_rfl) (sb_cells (by kernel_rfl) (by kernel_rfl) (by kernel_rfl)) pl_nil) (tight_agg (tights_lows (low_cA _))) (sbs (sb_cells (by kernel_rfl) (by kernel_rfl) (by kernel_rfl)) sbs_nil) (wr 3 [.cells ((cA .u8) y14),.cells ((cA .u32) y13.1++(cA .u8) y13.2.1++(cI .i64) y13.2.2)] (we (ng (xt ?_)))))))))))))))))))))))
 cases hF
 exact fE [] (.inl rfl) (low_agg (low_cA _)) ⟨rfl,rfl⟩
def mac_Bytes (a0 : Arr 32) : Option (List UInt8) :=
  (cutA 32 none none).bind fun y17=>some (bytesS ((a0.l.drop y17.1).take y17.2))
theorem mac_Bytes_ev {a0 : Arr 32} {r : (List UInt8)} (hF : mac_Bytes a0=some r) : EvCall Tryz.prog T G0 97 [.agg ((cA .u8) a0)] [] (fun v H'=>v=.str r∧H'=[]):=by
 refine xc Tryz.func97 ?_
 refine xq (wr 2 [.cells ((cA .u8) a0)] (we (ng (xq (bind_elim hF (fun y17 hy17 hF=>w_aslice (l:=0) (o:=0) hy17 (fun e16=>(w_astr (l:=0) (o:=0) (lo:=y17.1) (len:=y17.2) (ex:=e16) a0 (cutA_spec hy17) (wh 3 (we (ng (xt ?_))))))))))))
 cases hF
 exact fE [] (.inl rfl) rfl ⟨rfl,rfl⟩
def mac_of_J1 (p14 : List UInt8) : Option (Arr 64) :=
  (cutA 64 none none).bind fun y17=>some ((Arr.zero 64).over y17.1 (intsS (p14.take (min p14.length y17.2))))
def mac_of (a0 : List UInt8) : Option (Arr 64) :=
  if iGt (a0.length : Int) 64=true then (sum_Sum a0).bind fun y18=>(mac_Bytes y18).bind fun y19=>mac_of_J1 y19 else mac_of_J1 a0
theorem mac_of_ev {a0 : List UInt8} {r : (Arr 64)} (hF : mac_of a0=some r) : EvCall Tryz.prog T G0 128 [.str a0] [] (fun v H'=>v=.agg ((cA .u8) r)∧H'=[]):=by
 refine xc Tryz.func128 ?_
 refine xq (wr 1 [.cells ((cA .u8) (Arr.zero 64))] (we (ng (xq (wr 1 [.cells ((cA .u8) (Arr.zero 64)),.cells ((cA .u8) (Arr.zero 64))] (we (ng ?_)))))))
 refine xj (fun fr H=>∃ (p14 : List UInt8) (g15 : Option Bool),fr=[.str p14,.any,.ptr 0 0,.ptr 1 0,.any,.any,junkB g15,.any,.any,.any,.any,.any,.any,.any]∧H=[.cells ((cA .u8) (Arr.zero 64)),.cells ((cA .u8) (Arr.zero 64))]∧mac_of_J1 p14=some r) (fun fr H ⟨p14,g15,e1,e2,hF⟩=>?_) (fun hJ1=>?_)
 ·subst e1 e2
  refine xq (bind_elim hF (fun y17 hy17 hF=>w_aslice (l:=1) (o:=0) hy17 (fun e16=>(wh 2 (w_acopy (l:=1) (o:=0) (lo:=y17.1) (len:=y17.2) (ex:=e16) (s:=p14) (Arr.zero 64) (cutA_spec hy17) (we (ng (xq (wr 2 [.cells ((cA .u8) ((Arr.zero 64).over y17.1 (intsS (p14.take (min p14.length y17.2))))),.cells ((cA .u8) ((Arr.zero 64).over y17.1 (intsS (p14.take (min p14.length y17.2)))))] (we (ng (xt ?_))))))))))))
  cases hF
  exact fE [] (.inl rfl) (low_agg (low_cA _)) ⟨rfl,rfl⟩
 refine xq (wh 3 (we (ng ?_)))
 refine ite_elim hF (fun hc1 hF=>?_) (fun hc1 hF=>?_)
 ·exact kT 6 hc1 (xT (xr (wh 1 (bind_elim hF (fun y18 hy18 hF=>uC (sum_Sum_ev hy18) (lows_cons rfl rfl) (low_agg (low_cA _)) (bind_elim hF (fun y19 hy19 hF=>uC (mac_Bytes_ev hy19) (lows_cons (low_agg (low_cA _)) rfl) rfl (wh 4 (we (then_n (x_to hJ1 (VS.sm 16370) ⟨y19,(some true),rfl,rfl,hF⟩)))))))))))
 exact kF 6 hc1 (xF (xk (then_n (x_to hJ1 (VS.sm 16370) ⟨a0,(some false),rfl,rfl,hF⟩))))
def mac_Tag_1_J1 (p47 : Sl Int) : Option (List UInt8) :=
  some (bytesS p47.l)
def mac_Tag_1_B67 (a0 : Int) (a1 : Arr 64) (k67 : ((Sl Int)×Int)→Option (List UInt8)) (x67 : (Sl Int)×Int) : Option (List UInt8) :=
  if iLt x67.2 64=true then (idxN 64 x67.2).bind fun y70=>(appL 1 x67.1 (⟨false,true,[iXor .u8 (a1.at y70) a0]⟩ : Sl Int).l).bind fun y71=>k67 (y71,iAdd .i64 x67.2 1) else mac_Tag_1_J1 x67.1
def mac_Tag_1 (a0 : Int) (a1 : Arr 64) : Option (List UInt8) :=
  (mkL 1 (0 : Int) 0 64).bind fun y22=>loopN (mac_Tag_1_B67 a0 a1) FUEL (y22,0)
theorem mac_Tag_1_ev {a0 : Int} {a1 : Arr 64} {r : (List UInt8)} (hF : mac_Tag_1 a0 a1=some r) : EvCall Tryz.prog T G0 129 [.int .u8 a0,.ptr 0 0] [.cells ((cA .u8) a1)] (fun v H'=>v=.str r∧H'=[.cells ((cA .u8) a1)]):=by
 refine xc Tryz.func129 ?_
 refine xq (wh 1 (we (ng (xq (bind_elim hF (fun y22 hy22 hF=>w_mkown (cI .u8) (e:=5) (sz:=1) (bytes:=1) hy22 (wr 2 [.cells ((cA .u8) a1),.room 1 true] (we (ng ?_)))))))))
 refine xj (fun fr H=>∃ (p47 : Sl Int) (g46 : Nat) (g48 : Bool),fr=[.any,.any,.any,.any,ownv (cI .u8) 1 g46 1 p47,.any,.any,.any,.any,.any,.bool false,.any,.any,.any,.any,.any,.any,.any,.any,.any,.any]∧H=[.cells ((cA .u8) a1),.room g46 g48]∧mac_Tag_1_J1 p47=some r) (fun fr H ⟨p47,g46,g48,e1,e2,hF⟩=>?_) (fun hJ1=>?_)
 ·subst e1 e2
  refine xq (wh 1 (w_str (l:=p47.l) (by kernel_rfl) (wh 3 (we (ng (xt ?_))))))
  cases hF
  exact fS [0] (.inl rfl) rfl (sk rfl shh_nil) ⟨rfl,rfl⟩
 refine xq (wh 2 (we (ng (xb (x_loop (fun d fr H=>∃ (x67 : (Sl Int)×Int) (g53 : Nat) (g56 : Option Bool) (g57 : Bool),fr=[.int .u8 a0,.any,.any,.any,ownv (cI .u8) 1 g53 1 x67.1,.any,.any,.any,.agg ((cA .u8) a1),.int .i64 x67.2,junkB g56,.any,.any,.any,.any,.any,.any,.any,.any,.any,.any]∧H=[.cells ((cA .u8) a1),.room g53 g57]∧loopN (mac_Tag_1_B67 a0 a1) d x67=some r) (by kernel_rfl) (fun fr H ⟨x67,g53,g56,g57,e1,e2,hF⟩=>loop_no hF) (fun d67 fr H ⟨x67,g53,g56,g57,e1,e2,hF⟩=>?_) (VS.sm 2096366) ⟨(y22,0),1,none,true,rfl,rfl,hF⟩)))))
 subst e1 e2
 have hF:=loop_in hF
 refine xq (wh 1 (we (ng (xs ?_))))
 refine ite_elim hF (fun hc1 hF=>?_) (fun hc1 hF=>?_)
 ·exact kT 10 hc1 (xT (xk (ng (xs (xb (xq (bind_elim hF (fun y70 hy70 hF=>w_aidx (kd:=.u8) a1 hy70 (by kernel_rfl) (wh 2 (we (ng (xr (wh 4 (w_frz (v:=sl (cI .u8) (⟨false,true,[iXor .u8 (a1.at y70) a0]⟩ : Sl Int)) (by kernel_rfl) (bind_elim hF (fun y71 hy71 hF=>w_app (cI .u8) (e:=5) (sz:=1) (l0:=1) (real:=g57) (ver:=g53) (x:=x67.1) (ys:=(⟨false,true,[iXor .u8 (a1.at y70) a0]⟩ : Sl Int).l) hy71 (by kernel_rfl) (by decide) (gives_sl (x:=(⟨false,true,[iXor .u8 (a1.at y70) a0]⟩ : Sl Int)) (by kernel_rfl) (fun _=>rfl)) (room_at (by kernel_rfl)) (wr 7 [.cells ((cA .u8) a1),.room (g53+1) (g57 || !((⟨false,true,[iXor .u8 (a1.at y70) a0]⟩ : Sl Int).l.length==0))] (we (block_n (ng (xr (wh 2 (we (then_n (x_back (VS.sm 2096366) ⟨(y71,iAdd .i64 x67.2 1),(g53+1),(some true),(g57 || !((⟨false,true,[iXor .u8 (a1.at y70) a0]⟩ : Sl Int).l.length==0)),rfl,rfl,hF⟩)))))))))))))))))))))))))
 exact kF 10 hc1 (xF (xe (then_e (then_e (block_e (then_n (x_to hJ1 (VS.sm 2096111) ⟨x67.1,g53,g57,rfl,rfl,hF⟩)))))))
def mac_Tag_J1 (y12 : (Arr 64)) (p42 : Arr 8) (p43 : Arr 64) (p44 : Int) : Option (Arr 32) :=
  (mac_Tag_1 92 y12).bind fun y45=>(sum_Sum256_Sum p42 p43 p44).bind fun y46=>(mac_Bytes y46).bind fun y47=>(catS y45 y47).bind fun y48=>(sum_Sum y48).bind fun y49=>some y49
def mac_Tag_B70 (a1 : Sl (List UInt8)) (y12 : (Arr 64)) (k70 : (Int×(Arr 8)×(Arr 64)×Int)→Option (Arr 32)) (x70 : Int×(Arr 8)×(Arr 64)×Int) : Option (Arr 32) :=
  if iLt x70.1 (a1.l.length : Int)=true then (idxL a1.l x70.1).bind fun y73=>(sum_Sum256_Add_2 y73 x70.2.1 x70.2.2.1 x70.2.2.2).bind fun y74=>k70 (iAdd .i64 x70.1 1,y74.1,y74.2.1,y74.2.2) else mac_Tag_J1 y12 x70.2.1 x70.2.2.1 x70.2.2.2
def mac_Tag (a0 : List UInt8) (a1 : Sl (List UInt8)) : Option (Arr 32) :=
  (mac_of a0).bind fun y12=>(sum_New).bind fun y13=>(mac_Tag_1 54 y12).bind fun y14=>(sum_Sum256_Add y14 y13).bind fun y15=>loopN (mac_Tag_B70 a1 y12) FUEL (0,y15.1,y15.2.1,y15.2.2)
theorem mac_Tag_ev {a0 : List UInt8} {a1 : Sl (List UInt8)} {r : (Arr 32)} (hF : mac_Tag a0 a1=some r) : EvCall Tryz.prog T G0 98 [.str a0,sl cS a1] [] (fun v H'=>v=.agg ((cA .u8) r)∧H'=[]):=by
 refine xc Tryz.func98 ?_
 refine xq (wr 1 [.cells ((cA .u8) (Arr.zero 32))] (we (ng (xq (wh 1 (bind_elim hF (fun y12 hy12 hF=>uC (mac_of_ev hy12) (lows_cons rfl rfl) (low_agg (low_cA _)) (wr 4 [.cells ((cA .u8) (Arr.zero 32)),.cells ((cA .u8) y12)] (we (ng (xq (wh 2 (we (ng (xq (bind_elim hF (fun y13 hy13 hF=>uO [] [2] (v:=.ptr 2 0) [.cells (cSum_Sum256 y13)] [.cells ((cA .u8) (Arr.zero 32)),.cells ((cA .u8) y12),.cells (cSum_Sum256 y13)] (sum_New_ev hy13) (by kernel_rfl) pl_nil rfl (sbs (sb_cells (by kernel_rfl) (by kernel_rfl) (by kernel_rfl)) sbs_nil) (wh 2 (we (ng (xq (wh 2 (bind_elim hF (fun y14 hy14 hF=>uOs [1] [1] (v:=.str y14) [.cells ((cA .u8) y12)] (mac_Tag_1_ev hy14) (by kernel_rfl) (pl (b':=.cells ((cA .u8) y12)) (by kernel_rfl) (sb_cells (by kernel_rfl) (by kernel_rfl) (by kernel_rfl)) pl_nil) rfl (sbs (sb_cells (by kernel_rfl) (by kernel_rfl) (by kernel_rfl)) sbs_nil) (bind_elim hF (fun y15 hy15 hF=>uO [2] [2] (v:=.bool true) [.cells ((cA .u32) y15.1++(cA .u8) y15.2.1++(cI .i64) y15.2.2)] [.cells ((cA .u8) (Arr.zero 32)),.cells ((cA .u8) y12),.cells ((cA .u32) y15.1++(cA .u8) y15.2.1++(cI .i64) y15.2.2)] (sum_Sum256_Add_ev hy15) (by kernel_rfl) (pl (b':=.cells (cSum_Sum256 y13)) (by kernel_rfl) (sb_cells (by kernel_rfl) (by kernel_rfl) (by kernel_rfl)) pl_nil) rfl (sbs (sb_cells (by kernel_rfl) (by kernel_rfl) (by kernel_rfl)) sbs_nil) (we (ng ?_))))))))))))))))))))))))))))
 refine xj (fun fr H=>∃ (p42 : Arr 8) (p43 : Arr 64) (p44 : Int) (g41 : Option Bool),fr=[.any,.any,.any,.any,.ptr 0 0,.any,.fn 129 [] [.ptr 1 0],.ptr 2 0,.any,.any,.any,.any,.any,.any,.any,.any,.any,.bool true,.any,.any,.any,.bool false,.any,.any,.any,.any,junkB g41,.any,.any,.any,.any,.any,.any,.any,.any]∧H=[.cells ((cA .u8) (Arr.zero 32)),.cells ((cA .u8) y12),.cells ((cA .u32) p42++(cA .u8) p43++(cI .i64) p44)]∧mac_Tag_J1 y12 p42 p43 p44=some r) (fun fr H ⟨p42,p43,p44,g41,e1,e2,hF⟩=>?_) (fun hJ1=>?_)
 ·subst e1 e2
  refine xq (wh 1 (bind_elim hF (fun y45 hy45 hF=>uOs [1] [1] (v:=.str y45) [.cells ((cA .u8) y12)] (mac_Tag_1_ev hy45) (by kernel_rfl) (pl (b':=.cells ((cA .u8) y12)) (by kernel_rfl) (sb_cells (by kernel_rfl) (by kernel_rfl) (by kernel_rfl)) pl_nil) rfl (sbs (sb_cells (by kernel_rfl) (by kernel_rfl) (by kernel_rfl)) sbs_nil) (wh 3 (bind_elim hF (fun y46 hy46 hF=>uOs [2] [2] (v:=.agg ((cA .u8) y46)) [.cells ((cA .u32) p42++(cA .u8) p43++(cI .i64) p44)] (sum_Sum256_Sum_ev hy46) (by kernel_rfl) (pl (b':=.cells ((cA .u32) p42++(cA .u8) p43++(cI .i64) p44)) (by kernel_rfl) (sb_cells (by kernel_rfl) (by kernel_rfl) (by kernel_rfl)) pl_nil) (tight_agg (tights_lows (low_cA _))) (sbs (sb_cells (by kernel_rfl) (by kernel_rfl) (by kernel_rfl)) sbs_nil) (bind_elim hF (fun y47 hy47 hF=>uC (mac_Bytes_ev hy47) (lows_cons (low_agg (low_cA _)) rfl) rfl (bind_elim hF (fun y48 hy48 hF=>w_cat (by kernel_rfl) hy48 (bind_elim hF (fun y49 hy49 hF=>uC (sum_Sum_ev hy49) (lows_cons rfl rfl) (low_agg (low_cA _)) (wr 8 [.cells ((cA .u8) y49),.cells ((cA .u8) y12),.cells ((cA .u32) p42++(cA .u8) p43++(cI .i64) p44)] (we (ng (xt ?_))))))))))))))))
  cases hF
  exact fE [] (.inl rfl) (low_agg (low_cA _)) ⟨rfl,rfl⟩
 refine xq (wh 3 (we (ng (xb (x_loop (fun d fr H=>∃ (x70 : Int×(Arr 8)×(Arr 64)×Int) (g55 : Option Bool) (g56 : Option Bool),fr=[.any,.any,.any,.any,.ptr 0 0,.any,.fn 129 [] [.ptr 1 0],.ptr 2 0,.any,.any,.any,.any,.any,.any,.any,.any,.any,.bool true,sl cS a1,.int .i64 (a1.l.length : Int),.int .i64 x70.1,junkB g55,.any,.any,.any,.any,junkB g56,.any,.any,.any,.any,.any,.any,.any,.any]∧H=[.cells ((cA .u8) (Arr.zero 32)),.cells ((cA .u8) y12),.cells ((cA .u32) x70.2.1++(cA .u8) x70.2.2.1++(cI .i64) x70.2.2.2)]∧loopN (mac_Tag_B70 a1 y12) d x70=some r) (by kernel_rfl) (fun fr H ⟨x70,g55,g56,e1,e2,hF⟩=>loop_no hF) (fun d70 fr H ⟨x70,g55,g56,e1,e2,hF⟩=>?_) (VS.sm 34357772079) ⟨(0,y15.1,y15.2.1,y15.2.2),none,none,rfl,rfl,hF⟩)))))
 subst e1 e2
 have hF:=loop_in hF
 refine xq (wh 1 (we (ng (xs ?_))))
 refine ite_elim hF (fun hc1 hF=>?_) (fun hc1 hF=>?_)
 ·exact kT 21 hc1 (xT (xk (ng (xs (xb (xq (bind_elim hF (fun y73 hy73 hF=>uI cS 1 hy73 (fun _=>rfl) (uE cS 0 (t:=9) (v:=.str y73) 1 1 hy73 (fun _=>rfl) (wh 3 (we (ng (xr (wh 2 (bind_elim hF (fun y74 hy74 hF=>uO [2] [2] (v:=.bool true) [.cells ((cA .u32) y74.1++(cA .u8) y74.2.1++(cI .i64) y74.2.2)] [.cells ((cA .u8) (Arr.zero 32)),.cells ((cA .u8) y12),.cells ((cA .u32) y74.1++(cA .u8) y74.2.1++(cI .i64) y74.2.2)] (sum_Sum256_Add_2_ev hy74) (by kernel_rfl) (pl (b':=.cells ((cA .u32) x70.2.1++(cA .u8) x70.2.2.1++(cI .i64) x70.2.2.2)) (by kernel_rfl) (sb_cells (by kernel_rfl) (by kernel_rfl) (by kernel_rfl)) pl_nil) rfl (sbs (sb_cells (by kernel_rfl) (by kernel_rfl) (by kernel_rfl)) sbs_nil) (we (block_n (ng (xr (wh 2 (we (then_n (x_back (VS.sm 34357772079) ⟨(iAdd .i64 x70.1 1,y74.1,y74.2.1,y74.2.2),(some true),(some true),rfl,rfl,hF⟩))))))))))))))))))))))))
 exact kF 21 hc1 (xF (xe (then_e (then_e (block_e (then_n (x_to hJ1 (VS.sm 34290401071) ⟨x70.2.1,x70.2.2.1,x70.2.2.2,g56,rfl,rfl,hF⟩)))))))
def mac_Make (a0 : List UInt8) (a1 : List UInt8) (a2 : Int) : Option (List UInt8) :=
  (lay_Text a1).bind fun y1=>if (y1.2 != 0)=true then some [] else (lay_Number a2).bind fun y2=>(mac_Tag a0 (⟨false,true,[y1.1,y2]⟩ : Sl (List UInt8))).bind fun y3=>(mac_Bytes y3).bind fun y4=>some y4
theorem mac_Make_ev {a0 : List UInt8} {a1 : List UInt8} {a2 : Int} {r : (List UInt8)} (hF : mac_Make a0 a1 a2=some r) : EvCall Tryz.prog T G0 49 [.str a0,.str a1,.int .i64 a2] [] (fun v H'=>v=.str r∧H'=[]):=by
 refine xc Tryz.func49 ?_
 refine xq (wh 1 (we (ng (xq (wh 1 (bind_elim hF (fun y1 hy1 hF=>uC (lay_Text_ev hy1) (lows_cons rfl rfl) (low_tup (lows_cons rfl (lows_cons rfl rfl))) (wh 7 (we (ng (xs (xq (wh 2 (we (ng ?_)))))))))))))))
 refine ite_elim hF (fun hc1 hF=>?_) (fun hc1 hF=>?_)
 ·refine kT 15 hc1 (xT (xq (wh 1 (we (ng (xt (then_r ?_)))))))
  cases hF
  exact fE [] (.inl rfl) rfl ⟨rfl,rfl⟩
 refine kF 15 hc1 (xF (xk (ng (xq (wh 3 (bind_elim hF (fun y2 hy2 hF=>uC (lay_Number_ev hy2) (lows_cons rfl rfl) rfl (w_frz (v:=sl cS (⟨false,true,[y1.1,y2]⟩ : Sl (List UInt8))) (by kernel_rfl) (bind_elim hF (fun y3 hy3 hF=>uC (mac_Tag_ev hy3) (lows_cons rfl (lows_cons (low_sl low_cS) rfl)) (low_agg (low_cA _)) (bind_elim hF (fun y4 hy4 hF=>uC (mac_Bytes_ev hy4) (lows_cons (low_agg (low_cA _)) rfl) rfl (wh 8 (we (ng (xt ?_))))))))))))))))
 cases hF
 exact fE [] (.inl rfl) rfl ⟨rfl,rfl⟩
def ring_New_1 (a0 : Int) (a1 : List UInt8) : Option (List UInt8) :=
  (mac_Make a1 [99,108,105,101,110,116] a0).bind fun y1=>some y1
theorem ring_New_1_ev {a0 : Int} {a1 : List UInt8} {r : (List UInt8)} (hF : ring_New_1 a0 a1=some r) : EvCall Tryz.prog T G0 48 [.int .i64 a0,.ptr 0 0] [.cells (cS a1)] (fun v H'=>v=.str r∧H'=[.cells (cS a1)]):=by
 refine xc Tryz.func48 ?_
 refine xq (wh 1 (we (ng (xq (wh 2 (bind_elim hF (fun y1 hy1 hF=>uC (mac_Make_ev hy1) (lows_cons rfl (lows_cons rfl (lows_cons rfl rfl))) rfl (wh 4 (we (ng (xt ?_)))))))))))
 cases hF
 exact fS [0] (.inl rfl) rfl (sk rfl shh_nil) ⟨rfl,rfl⟩
def ring_New_J1 (p44 : Sl (List UInt8)) : Option ((List UInt8)×(Sl (List UInt8))×(Mp Ring_tagged Int)) :=
  some ([115,101,101,100],p44,Mp.none)
def ring_New_B75  (k75 : ((Sl (List UInt8))×Int)→Option ((List UInt8)×(Sl (List UInt8))×(Mp Ring_tagged Int))) (x75 : (Sl (List UInt8))×Int) : Option ((List UInt8)×(Sl (List UInt8))×(Mp Ring_tagged Int)) :=
  if iLt x75.2 3=true then (ring_New_1 x75.2 [115,101,101,100]).bind fun y86=>(appL 16 x75.1 (⟨false,true,[y86]⟩ : Sl (List UInt8)).l).bind fun y87=>k75 (y87,iAdd .i64 x75.2 1) else ring_New_J1 x75.1
def ring_New  : Option ((List UInt8)×(Sl (List UInt8))×(Mp Ring_tagged Int)) :=
  loopN (ring_New_B75) FUEL ((⟨true,true,[]⟩ : Sl (List UInt8)),0)
theorem ring_New_ev {r : (List UInt8)×(Sl (List UInt8))×(Mp Ring_tagged Int)} (hF : ring_New=some r) : EvCall Tryz.prog T G0 12 [.str [115,101,101,100],.int .i64 3] [] (fun v H'=>v=.tup [.ptr 0 0,.int .i64 0]∧H'=[.cells (cS r.1++[rfv false r.2.1 1 1]++[.map 2]),rfb cS r.2.1,mpb (fun a=>AV.agg (cRing_tagged a)) (AV.int .i64) r.2.2]):=by
 refine xc Tryz.func12 ?_
 refine xq (wr 3 [.cells (cS [115,101,101,100])] (we (ng (xs (xq (wh 11 (we (ng (xF (xk (ng (xq (wr 5 [.cells (cS [115,101,101,100]),mpb (fun a=>AV.agg (cRing_tagged a)) (AV.int .i64) Mp.none,.cells ((cS [115,101,101,100]++(cL cS) (⟨true,true,[]⟩ : Sl (List UInt8))++[.map 1]))] (we (ng (xq (wh 2 (we (ng ?_)))))))))))))))))))
 refine xj (fun fr H=>∃ (p44 : Sl (List UInt8)),fr=[.any,.any,.any,.any,.any,.any,.ptr 0 0,.any,.any,.any,.bool false,.bool false,.any,.bool false,.bool false,.bool false,.any,.any,.bool false,.bool false,.any,.any,.any,.any,.any,.any,.any,.bool false,.any,.any,.any,.any,.any,.any,.any,.any,.any,.any,.any,.any,.any,.any,.any]∧H=[.cells (cS [115,101,101,100]++[rfv false p44 1 1]++[.map 2]),rfb cS p44,mpb (fun a=>AV.agg (cRing_tagged a)) (AV.int .i64) Mp.none]∧ring_New_J1 p44=some r) (fun fr H ⟨p44,e1,e2,hF⟩=>?_) (fun hJ1=>?_)
 ·subst e1 e2
  refine xq (wh 3 (we (ng (xt ?_))))
  cases hF
  exact fS [0,1,2] (.inl rfl) rfl (sk rfl (sr low_cS rfl (sn (noref_mpb (fun _=>low_agg (low_cRing_tagged _)) (fun _=>rfl) _) rfl shh_nil))) ⟨rfl,rfl⟩
 refine xq (wh 2 (we (ng (xb (x_loop (fun d fr H=>∃ (x75 : (Sl (List UInt8))×Int) (g59 : Option Bool),fr=[.any,.any,.any,.any,.any,.any,.ptr 0 0,.fn 48 [] [.ptr 3 0],.any,.any,.bool false,.bool false,.any,.bool false,.bool false,.bool false,.any,.any,.bool false,.bool false,.any,.any,.any,.any,.any,.int .i64 3,.int .i64 x75.2,junkB g59,.any,.any,.any,.any,.any,.any,.any,.any,.any,.any,.any,.any,.any,.any,.any]∧H=[.cells (cS [115,101,101,100]++[rfv false x75.1 1 1]++[.map 2]),rfb cS x75.1,mpb (fun a=>AV.agg (cRing_tagged a)) (AV.int .i64) Mp.none,.cells (cS [115,101,101,100])]∧loopN (ring_New_B75) d x75=some r) (by kernel_rfl) (fun fr H ⟨x75,g59,e1,e2,hF⟩=>loop_no hF) (fun d75 fr H ⟨x75,g59,e1,e2,hF⟩=>?_) (VS.trans (VS.thawC cS 2 1 1 (cs:=cS [115,101,101,100]++(cL cS) (⟨true,true,[]⟩ : Sl (List UInt8))++[.map 1]) (by kernel_rfl) (by kernel_rfl)) (VS.si [2,3,1,0] 8795991511871 (by kernel_rfl) (sk (xs:=cS [115,101,101,100]++[rfv false (⟨true,true,[]⟩ : Sl (List UInt8)) 3 1]++[.map 1]) (by kernel_rfl) (sr low_cS (x:=(⟨true,true,[]⟩ : Sl (List UInt8))) (by kernel_rfl) (sn (noref_mpb (fun _=>low_agg (low_cRing_tagged _)) (fun _=>rfl) _) (by kernel_rfl) (sk (xs:=cS [115,101,101,100]) (by kernel_rfl) shh_nil)))))) ⟨((⟨true,true,[]⟩ : Sl (List UInt8)),0),none,rfl,rfl,hF⟩)))))
 subst e1 e2
 have hF:=loop_in hF
 refine xq (wh 1 (we (ng (xs ?_))))
 refine ite_elim hF (fun hc1 hF=>?_) (fun hc1 hF=>?_)
 ·refine kT 27 hc1 (xT (xk (ng (xs (xb (xq (wh 2 (we (ng (x_rows 0 3583 [⟨9,[10,11],[0,10,11],[],[]⟩,⟨12,[],[],[],[]⟩] call_ends callMono (by kernel_rfl) (by kernel_rfl) (wp 7 (bind_elim hF (fun y86 hy86 hF=>uOs [3] [3] (v:=.str y86) [.cells (cS [115,101,101,100])] (ring_New_1_ev hy86) (by kernel_rfl) (pl (b':=.cells (cS [115,101,101,100])) (by kernel_rfl) (sb_cells (by kernel_rfl) (by kernel_rfl) (by kernel_rfl)) pl_nil) rfl (sbs (sb_cells (by kernel_rfl) (by kernel_rfl) (by kernel_rfl)) sbs_nil) (w_frz (v:=sl cS (⟨false,true,[y86]⟩ : Sl (List UInt8))) (by kernel_rfl) (we (rows_next (bind_elim hF (fun y87 hy87 hF=>w_rapp cS (e:=9) (l:=1) (ex:=false) (y:=sl cS (⟨false,true,[y86]⟩ : Sl (List UInt8))) (sz:=1) (x:=x75.1) (ys:=(⟨false,true,[y86]⟩ : Sl (List UInt8)).l) hy87 (by kernel_rfl) (by decide) (fun _=>rfl) (by kernel_rfl) (gives_sl (x:=(⟨false,true,[y86]⟩ : Sl (List UInt8))) (by kernel_rfl) (fun _=>rfl)) (we (⟨⟨(by kernel_rfl),trivial⟩,(wp 2 (we (rows_next (wr 1 [.cells (cS [115,101,101,100]++[rfv false y87 4 1]++[.map 2]),.dead,mpb (fun a=>AV.agg (cRing_tagged a)) (AV.int .i64) Mp.none,.cells (cS [115,101,101,100]),rfb cS y87] (we (⟨⟨(by kernel_rfl),trivial⟩,(we (rows_done (de (block_n (ng ?_)))))⟩))))))⟩))))))))))))))))))))
  exact xr (wh 2 (we (then_n (x_back (VS.si [0,4,2,3] 8795991511871 (by kernel_rfl) (sk rfl (sr low_cS rfl (sn (noref_mpb (fun _=>low_agg (low_cRing_tagged _)) (fun _=>rfl) _) rfl (sk rfl shh_nil))))) ⟨(y87,iAdd .i64 x75.2 1),(some true),rfl,rfl,hF⟩))))
 exact kF 27 hc1 (xF (xe (then_e (then_e (block_e (then_n (x_to hJ1 (VS.si [0,1,2] 8795957957567 (by kernel_rfl) (sk rfl (sr low_cS rfl (sn (noref_mpb (fun _=>low_agg (low_cRing_tagged _)) (fun _=>rfl) _) rfl shh_nil)))) ⟨x75.1,rfl,rfl,hF⟩)))))))
def r04_New  : Option Affidavitref04_Ring :=
  some (⟨[115,101,101,100],3,(⟨true,true,[]⟩ : Sl Affidavitref04_Line)⟩ : Affidavitref04_Ring)
theorem r04_New_ev {r : Affidavitref04_Ring} (hF : r04_New=some r) : EvCall Tryz.prog T G0 13 [.str [115,101,101,100],.int .i64 3] [] (fun v H'=>v=.tup [.ptr 0 0,.int .i64 0]∧H'=[.cells (cAffidavitref04_Ring r)]):=by
 refine xc Tryz.func13 ?_
 refine xq (wh 2 (we (ng (xs (xq (wh 11 (we (ng (xF (xk (ng (xq (wr 6 [.cells (cAffidavitref04_Ring (⟨[115,101,101,100],3,(⟨true,true,[]⟩ : Sl Affidavitref04_Line)⟩ : Affidavitref04_Ring))] (we (ng (xt ?_))))))))))))))))
 cases hF
 exact fS [0] (.inl rfl) rfl (st (tights_lows (low_cAffidavitref04_Ring _)) rfl shh_nil) ⟨rfl,rfl⟩
def ring_Ring_Clients (a0 : List UInt8) (a1 : Sl (List UInt8)) (a2 : Mp Ring_tagged Int) : Option Int :=
  some (a1.l.length : Int)
theorem ring_Ring_Clients_ev {a0 : List UInt8} {a1 : Sl (List UInt8)} {a2 : Mp Ring_tagged Int} {r : Int} (hF : ring_Ring_Clients a0 a1 a2=some r) : EvCall Tryz.prog T G0 100 [.ptr 0 0] [.cells (cS a0++[rfv false a1 1 1]++[.map 2]),rfb cS a1,mpb (fun a=>AV.agg (cRing_tagged a)) (AV.int .i64) a2] (fun v H'=>v=.int .i64 r∧H'=[.cells (cS a0++[rfv false a1 1 1]++[.map 2]),rfb cS a1,mpb (fun a=>AV.agg (cRing_tagged a)) (AV.int .i64) a2]):=by
 refine xc Tryz.func100 ?_
 refine xq (wh 1 (we (ng (xs (xq (wh 2 (we (ng (xF (xk (ng (xq (wh 6 (we (ng (xt ?_))))))))))))))))
 cases hF
 exact fS [0,1,2] (.inl rfl) rfl (sk rfl (sr low_cS rfl (sn (noref_mpb (fun _=>low_agg (low_cRing_tagged _)) (fun _=>rfl) _) rfl shh_nil))) ⟨rfl,rfl⟩
def verify_is_J1 (p93 : Bool) : Option Bool :=
  some p93
def verify_is (a0 : Int) (a1 : List UInt8) (a2 : Sl (List UInt8)) (a3 : Mp Ring_tagged Int) : Option Bool :=
  if iGe a0 0=true then (ring_Ring_Clients a1 a2 a3).bind fun y97=>verify_is_J1 (iLt a0 y97) else verify_is_J1 false
theorem verify_is_ev {a0 : Int} {a1 : List UInt8} {a2 : Sl (List UInt8)} {a3 : Mp Ring_tagged Int} {r : Bool} (hF : verify_is a0 a1 a2 a3=some r) : EvCall Tryz.prog T G0 61 [.ptr 0 0,.int .i64 a0] [.cells (cS a1++[rfv false a2 1 1]++[.map 2]),rfb cS a2,mpb (fun a=>AV.agg (cRing_tagged a)) (AV.int .i64) a3] (fun v H'=>v=.bool r∧H'=[.cells (cS a1++[rfv false a2 1 1]++[.map 2]),rfb cS a2,mpb (fun a=>AV.agg (cRing_tagged a)) (AV.int .i64) a3]):=by
 refine xc Tryz.func61 ?_
 refine xq (wh 1 (we (ng ?_)))
 refine xj (fun fr H=>∃ (p93 : Bool) (g94 : Option Bool) (g95 : Option Bool) (g96 : Option Bool),fr=[.any,.any,.any,.any,.bool p93,.any,.bool (iGe a0 0),junkB g94,.any,.any,.any,junkB g95,junkB g96]∧H=[.cells (cS a1++[rfv false a2 1 1]++[.map 2]),rfb cS a2,mpb (fun a=>AV.agg (cRing_tagged a)) (AV.int .i64) a3]∧verify_is_J1 p93=some r) (fun fr H ⟨p93,g94,g95,g96,e1,e2,hF⟩=>?_) (fun hJ1=>?_)
 ·subst e1 e2
  refine xt ?_
  cases hF
  exact fS [0,1,2] (.inl rfl) rfl (sk rfl (sr low_cS rfl (sn (noref_mpb (fun _=>low_agg (low_cRing_tagged _)) (fun _=>rfl) _) rfl shh_nil))) ⟨rfl,rfl⟩
 refine xr (wh 3 ?_)
 refine ite_elim hF (fun hc1 hF=>?_) (fun hc1 hF=>?_)
 ·exact wT 7 hc1 (wh 5 (bind_elim hF (fun y97 hy97 hF=>uOs [0,1,2] [0,1,2] (v:=.int .i64 y97) [.cells (cS a1++[rfv false a2 1 1]++[.map 2]),rfb cS a2,mpb (fun a=>AV.agg (cRing_tagged a)) (AV.int .i64) a3] (ring_Ring_Clients_ev hy97) (by kernel_rfl) (pl (b':=.cells (cS a1++[rfv false a2 1 1]++[.map 2])) (by kernel_rfl) (sb_cells (by kernel_rfl) (by kernel_rfl) (by kernel_rfl)) (pl (b':=rfb cS a2) (by kernel_rfl) (sb_low (noref_rfb low_cS _)) (pl (b':=mpb (fun a=>AV.agg (cRing_tagged a)) (AV.int .i64) a3) (by kernel_rfl) (sb_low (noref_mpb (fun _=>low_agg (low_cRing_tagged _)) (fun _=>rfl) _)) pl_nil))) rfl (sbs (sb_cells (by kernel_rfl) (by kernel_rfl) (by kernel_rfl)) (sbs (sb_low (noref_rfb low_cS _)) (sbs (sb_low (noref_mpb (fun _=>low_agg (low_cRing_tagged _)) (fun _=>rfl) _)) sbs_nil))) (wh 9 (we (then_n (x_to hJ1 (VS.sm 8111) ⟨iLt a0 y97,(some true),(some (iLt a0 y97)),(some (iLt a0 y97)),rfl,rfl,hF⟩)))))))
 exact wF 7 hc1 (wh 9 (we (then_n (x_to hJ1 (VS.sm 8111) ⟨false,(some false),none,(some false),rfl,rfl,hF⟩))))
def msg_writer_ints_B144 (a0 : Sl Int) (k144 : ((Sl Int)×Int)→Option (Sl Int)) (x144 : (Sl Int)×Int) : Option (Sl Int) :=
  if iLt x144.2 (a0.l.length : Int)=true then (idxL a0.l x144.2).bind fun y152=>(lay_Number y152).bind fun y157=>(appL 1 x144.1 (intsS y157)).bind fun y158=>k144 (y158,iAdd .i64 x144.2 1) else some x144.1
def msg_writer_ints (a0 : Sl Int) (a1 : Sl Int) : Option (Sl Int) :=
  loopN (msg_writer_ints_B144 a0) FUEL (a1,0)
theorem msg_writer_ints_ev {a0 : Sl Int} {a1 : Sl Int} {r : (Sl Int)} (hF : msg_writer_ints a0 a1=some r) : EvCall Tryz.prog T G0 111 [.ptr 0 0,sl (cI .i64) a0] [.cells ([rfv false a1 1 1]),rfb (cI .u8) a1] (fun v H'=>v=.tup []∧H'=[.cells ([rfv false r 2 1]),.dead,rfb (cI .u8) r]):=by
 refine xc Tryz.func111 ?_
 refine xq (wh 3 (we (ng (xb (x_loop (fun d fr H=>∃ (x144 : (Sl Int)×Int) (g126 : Option Bool),fr=[.ptr 0 0,.any,.any,.any,.any,.any,sl (cI .i64) a0,.int .i64 (a0.l.length : Int),.int .i64 x144.2,junkB g126,.any,.any,.any,.any,.any,.any,.any,.any,.any,.any,.any,.any,.any]∧H=[.cells ([rfv false x144.1 2 1]),.dead,rfb (cI .u8) x144.1]∧loopN (msg_writer_ints_B144 a0) d x144=some r) (by kernel_rfl) (fun fr H ⟨x144,g126,e1,e2,hF⟩=>loop_no hF) (fun d144 fr H ⟨x144,g126,e1,e2,hF⟩=>?_) (VS.trans (VS.move (cI .u8) a1 1 [] [0] (by kernel_rfl) (by kernel_rfl)) (VS.sm 8388158)) ⟨(a1,0),none,rfl,rfl,hF⟩)))))
 subst e1 e2
 have hF:=loop_in hF
 refine xq (wh 1 (we (ng (xs ?_))))
 refine ite_elim hF (fun hc1 hF=>?_) (fun hc1 hF=>?_)
 ·refine kT 9 hc1 (xT (xk (ng (xs (xb (xq (bind_elim hF (fun y152 hy152 hF=>uI (cI .i64) 1 hy152 (fun _=>rfl) (uE (cI .i64) 0 (t:=3) (v:=.int .i64 y152) 1 1 hy152 (fun _=>rfl) (wh 3 (we (ng (x_rows 0 895 [⟨7,[8,9],[0,8,9],[],[]⟩,⟨10,[],[],[],[]⟩] call_ends callMono (by kernel_rfl) (by kernel_rfl) (wp 6 (bind_elim hF (fun y157 hy157 hF=>uC (lay_Number_ev hy157) (lows_cons rfl rfl) rfl (we (rows_next (bind_elim hF (fun y158 hy158 hF=>w_rapp (cI .u8) (e:=5) (l:=2) (ex:=false) (y:=.str y157) (sz:=1) (x:=x144.1) (ys:=(intsS y157)) hy158 (by kernel_rfl) (by decide) (fun _=>rfl) (by kernel_rfl) (gives_str (by kernel_rfl)) (we (⟨⟨(by kernel_rfl),trivial⟩,(wp 2 (we (rows_next (wr 1 [.cells ([rfv false y158 3 1]),.dead,.dead,rfb (cI .u8) y158] (we (⟨⟨(by kernel_rfl),trivial⟩,(we (rows_done (de (block_n ?_))))⟩))))))⟩))))))))))))))))))))))
  exact ng (xr (wh 2 (we (then_n (x_back (VS.si [0,1,3] 8388158 (tights_at [6] (by kernel_rfl) (by exact ⟨(tight_sl low_cI),trivial⟩)) (sk rfl (shh rfl (shb_dead (by kernel_rfl)) (sr low_cI rfl shh_nil)))) ⟨(y158,iAdd .i64 x144.2 1),(some true),rfl,rfl,hF⟩)))))
 refine kF 9 hc1 (xF (xe (then_e (then_e (block_e ?_)))))
 cases hF
 exact fS [0,1,2] (.inr rfl) rfl (sk rfl (shh rfl (shb_dead (by kernel_rfl)) (sr low_cI rfl shh_nil))) ⟨rfl,rfl⟩
def msg_Asked_1 (a0 : Int) (a1 : Submit) (a2 : Sl Int) : Option (Sl Int) :=
  (msg_writer_ints (⟨false,true,[a0,a1.Number,a1.Kind,a1.Target]⟩ : Sl Int) a2).bind fun y110=>some y110
theorem msg_Asked_1_ev {a0 : Int} {a1 : Submit} {a2 : Sl Int} {r : (Sl Int)} (hF : msg_Asked_1 a0 a1 a2=some r) : EvCall Tryz.prog T G0 110 [.ptr 0 0,.ptr 1 0,.ptr 2 0] [.cells ([rfv false a2 3 1]),.cells ((cI .i64) a0),.cells (cSubmit a1),rfb (cI .u8) a2] (fun v H'=>v=.tup []∧H'=[.cells ([rfv false r 4 1]),.cells ((cI .i64) a0),.cells (cSubmit a1),.dead,rfb (cI .u8) r]):=by
 refine xc Tryz.func110 ?_
 refine xr (wh 8 (w_frz (v:=sl (cI .i64) (⟨false,true,[a0,a1.Number,a1.Kind,a1.Target]⟩ : Sl Int)) (by kernel_rfl) (bind_elim hF (fun y110 hy110 hF=>uO [0,3] [0,3,4] (v:=.tup []) [.cells ([rfv false y110 4 1]),.dead,rfb (cI .u8) y110] [.cells ([rfv false y110 4 1]),.cells ((cI .i64) a0),.cells (cSubmit a1),.dead,rfb (cI .u8) y110] (msg_writer_ints_ev hy110) (tights_cons rfl (tights_cons (tight_sl low_cI) rfl)) (pl (b':=.cells ([rfv false a2 3 1])) (by kernel_rfl) (sb_cells (by kernel_rfl) (by kernel_rfl) (by kernel_rfl)) (pl (b':=rfb (cI .u8) a2) (by kernel_rfl) (sb_low (noref_rfb low_cI _)) pl_nil)) rfl (sbs (sb_cells (by kernel_rfl) (by kernel_rfl) (by kernel_rfl)) (sbs sb_dead (sbs (sb_low (noref_rfb low_cI _)) sbs_nil))) (we ?_)))))
 cases hF
 exact fS [0,1,2,3,4] (.inr rfl) rfl (sk rfl (sk rfl (sk rfl (shh rfl (shb_dead (by kernel_rfl)) (sr low_cI rfl shh_nil))))) ⟨rfl,rfl⟩
def msg_made (a0 : Int) (a1 : Submit) : Option (List UInt8) :=
  (msg_Asked_1 a0 a1 (⟨true,true,[]⟩ : Sl Int)).bind fun y110=>some (bytesS y110.l)
theorem msg_made_ev {a0 : Int} {a1 : Submit} {r : (List UInt8)} (hF : msg_made a0 a1=some r) : EvCall Tryz.prog T G0 109 [.fn 110 [] [.ptr 0 0,.ptr 1 0]] [.cells ((cI .i64) a0),.cells (cSubmit a1)] (fun v H'=>v=.str r∧H'=[.cells ((cI .i64) a0),.cells (cSubmit a1)]):=by
 refine xc Tryz.func109 ?_
 refine xq (wh 1 (we (ng (xq (wr 3 [.cells ((cI .i64) a0),.cells (cSubmit a1),.cells (cMsg_writer (⟨(⟨true,true,[]⟩ : Sl Int)⟩ : Msg_writer))] (we (ng (xq (wh 2 (bind_elim hF (fun y110 hy110 hF=>uO [2,0,1] [2,0,1,3,4] (v:=.tup []) [.cells ([rfv false y110 4 1]),.cells ((cI .i64) a0),.cells (cSubmit a1),.dead,rfb (cI .u8) y110] [.cells ((cI .i64) a0),.cells (cSubmit a1),.cells ([rfv false y110 4 1]),.dead,rfb (cI .u8) y110] (EvCall.pre (args:=[.ptr 0 0,.ptr 1 0,.ptr 2 0]) (H:=[.cells ((cL (cI .u8)) (⟨true,true,[]⟩ : Sl Int)),.cells ((cI .i64) a0),.cells (cSubmit a1)]) (VS.thawC (cI .u8) 0 0 1 (cs:=(cL (cI .u8)) (⟨true,true,[]⟩ : Sl Int)) (by kernel_rfl) (by kernel_rfl)) (msg_Asked_1_ev hy110)) (by kernel_rfl) (pl (b':=.cells ((cL (cI .u8)) (⟨true,true,[]⟩ : Sl Int))) (by kernel_rfl) (sb_cells (by kernel_rfl) (by kernel_rfl) (tights_lows ((low_cL low_cI) _))) (pl (b':=.cells ((cI .i64) a0)) (by kernel_rfl) (sb_cells (by kernel_rfl) (by kernel_rfl) (by kernel_rfl)) (pl (b':=.cells (cSubmit a1)) (by kernel_rfl) (sb_cells (by kernel_rfl) (by kernel_rfl) (by kernel_rfl)) pl_nil))) rfl (sbs (sb_cells (by kernel_rfl) (by kernel_rfl) (by kernel_rfl)) (sbs (sb_cells (by kernel_rfl) (by kernel_rfl) (by kernel_rfl)) (sbs (sb_cells (by kernel_rfl) (by kernel_rfl) (by kernel_rfl)) (sbs sb_dead (sbs (sb_low (noref_rfb low_cI _)) sbs_nil))))) (we (ng (xq (wh 4 (w_rowstr (l:=4) (ex:=false) y110 (wh 6 (we (ng (xt ?_))))))))))))))))))))
 cases hF
 exact fS [0,1] (.inl rfl) rfl (sk rfl (sk rfl shh_nil)) ⟨rfl,rfl⟩
def msg_Asked (a0 : Int) (a1 : Submit) : Option (List UInt8) :=
  (msg_made a0 a1).bind fun y110=>some y110
theorem msg_Asked_ev {a0 : Int} {a1 : Submit} {r : (List UInt8)} (hF : msg_Asked a0 a1=some r) : EvCall Tryz.prog T G0 62 [.int .i64 a0,.agg (cSubmit a1)] [] (fun v H'=>v=.str r∧H'=[]):=by
 refine xc Tryz.func62 ?_
 refine xq (wr 3 [.cells ((cI .i64) a0),.cells (cSubmit a1)] (we (ng (xq (wh 1 (bind_elim hF (fun y110 hy110 hF=>uOs [0,1] [0,1] (v:=.str y110) [.cells ((cI .i64) a0),.cells (cSubmit a1)] (msg_made_ev hy110) (by kernel_rfl) (pl (b':=.cells ((cI .i64) a0)) (by kernel_rfl) (sb_cells (by kernel_rfl) (by kernel_rfl) (by kernel_rfl)) (pl (b':=.cells (cSubmit a1)) (by kernel_rfl) (sb_cells (by kernel_rfl) (by kernel_rfl) (by kernel_rfl)) pl_nil)) rfl (sbs (sb_cells (by kernel_rfl) (by kernel_rfl) (by kernel_rfl)) (sbs (sb_cells (by kernel_rfl) (by kernel_rfl) (by kernel_rfl)) sbs_nil)) (wh 3 (we (ng (xt ?_)))))))))))
 cases hF
 exact fE [] (.inl rfl) rfl ⟨rfl,rfl⟩
def ring_Ring_may_J1 (p114 : Bool) : Option Bool :=
  some p114
def ring_Ring_may (a0 : Ring_tagged) (a1 : List UInt8) (a2 : Sl (List UInt8)) (a3 : Mp Ring_tagged Int) : Option Bool :=
  if iGe a0.client 0=true then if iLt a0.client (a2.l.length : Int)=true then if iGe a0.domain 1=true then if iLe a0.domain 6=true then ring_Ring_may_J1 (iLe (a0.text.length : Int) 16384) else ring_Ring_may_J1 false else ring_Ring_may_J1 false else ring_Ring_may_J1 false else ring_Ring_may_J1 false
theorem ring_Ring_may_ev {a0 : Ring_tagged} {a1 : List UInt8} {a2 : Sl (List UInt8)} {a3 : Mp Ring_tagged Int} {r : Bool} (hF : ring_Ring_may a0 a1 a2 a3=some r) : EvCall Tryz.prog T G0 114 [.ptr 0 0,.agg (cRing_tagged a0)] [.cells (cS a1++[rfv false a2 1 1]++[.map 2]),rfb cS a2,mpb (fun a=>AV.agg (cRing_tagged a)) (AV.int .i64) a3] (fun v H'=>v=.bool r∧H'=[.cells (cS a1++[rfv false a2 1 1]++[.map 2]),rfb cS a2,mpb (fun a=>AV.agg (cRing_tagged a)) (AV.int .i64) a3]):=by
 refine xc Tryz.func114 ?_
 refine xq (wr 2 [.cells (cS a1++[rfv false a2 1 1]++[.map 2]),rfb cS a2,mpb (fun a=>AV.agg (cRing_tagged a)) (AV.int .i64) a3,.cells (cRing_tagged a0)] (we (ng ?_)))
 refine xj (fun fr H=>∃ (p114 : Bool) (g115 : Option Bool) (g116 : Option Bool) (g117 : Option Bool) (g118 : Option Bool) (g119 : Option Bool) (g120 : Option Bool) (g121 : Option Bool) (g122 : Option Bool) (g123 : Option Bool) (g124 : Option Bool) (g125 : Option Bool) (g126 : Option Bool),fr=[.any,.any,.any,.any,.bool p114,.any,.bool true,.bool true,.any,.any,.bool (iGe a0.client 0),.bool (iGe a0.client 0),junkB g115,.any,.any,.any,.any,.any,.any,.any,junkB g116,junkB g117,junkB g118,.any,.any,junkB g119,junkB g120,junkB g121,.any,.any,junkB g122,junkB g123,junkB g124,.any,.any,.any,junkB g125,junkB g126]∧H=[.cells (cS a1++[rfv false a2 1 1]++[.map 2]),rfb cS a2,mpb (fun a=>AV.agg (cRing_tagged a)) (AV.int .i64) a3]∧ring_Ring_may_J1 p114=some r) (fun fr H ⟨p114,g115,g116,g117,g118,g119,g120,g121,g122,g123,g124,g125,g126,e1,e2,hF⟩=>?_) (fun hJ1=>?_)
 ·subst e1 e2
  refine xt ?_
  cases hF
  exact fS [0,1,2] (.inl rfl) rfl (sk rfl (sr low_cS rfl (sn (noref_mpb (fun _=>low_agg (low_cRing_tagged _)) (fun _=>rfl) _) rfl shh_nil))) ⟨rfl,rfl⟩
 refine xd 0 call_ends callMono (wp 8 ?_)
 refine ite_elim hF (fun hc1 hF=>?_) (fun hc1 hF=>?_)
 ·refine wT 12 hc1 (wp 18 ?_)
  refine ite_elim hF (fun hc2 hF=>?_) (fun hc2 hF=>?_)
  ·refine wT 22 hc2 (wp 23 ?_)
   refine ite_elim hF (fun hc3 hF=>?_) (fun hc3 hF=>?_)
   ·refine wT 27 hc3 (wp 28 ?_)
    refine ite_elim hF (fun hc4 hF=>?_) (fun hc4 hF=>?_)
    ·exact wT 32 hc4 (wp 34 (we (de (then_n (x_to hJ1 (VS.si [0,1,2] 274877903663 (by kernel_rfl) (sk rfl (sr low_cS rfl (sn (noref_mpb (fun _=>low_agg (low_cRing_tagged _)) (fun _=>rfl) _) rfl shh_nil)))) ⟨iLe (a0.text.length : Int) 16384,(some true),(some (iLt a0.client (a2.l.length : Int))),(some (iLt a0.client (a2.l.length : Int))),(some true),(some (iGe a0.domain 1)),(some (iGe a0.domain 1)),(some true),(some (iLe a0.domain 6)),(some (iLe a0.domain 6)),(some true),(some (iLe (a0.text.length : Int) 16384)),(some (iLe (a0.text.length : Int) 16384)),rfl,rfl,hF⟩)))))
    exact wF 32 hc4 (wp 34 (we (de (then_n (x_to hJ1 (VS.si [0,1,2] 274877903663 (by kernel_rfl) (sk rfl (sr low_cS rfl (sn (noref_mpb (fun _=>low_agg (low_cRing_tagged _)) (fun _=>rfl) _) rfl shh_nil)))) ⟨false,(some true),(some (iLt a0.client (a2.l.length : Int))),(some (iLt a0.client (a2.l.length : Int))),(some true),(some (iGe a0.domain 1)),(some (iGe a0.domain 1)),(some true),(some (iLe a0.domain 6)),(some (iLe a0.domain 6)),(some false),none,(some false),rfl,rfl,hF⟩)))))
   exact wF 27 hc3 (wp 34 (we (de (then_n (x_to hJ1 (VS.si [0,1,2] 274877903663 (by kernel_rfl) (sk rfl (sr low_cS rfl (sn (noref_mpb (fun _=>low_agg (low_cRing_tagged _)) (fun _=>rfl) _) rfl shh_nil)))) ⟨false,(some true),(some (iLt a0.client (a2.l.length : Int))),(some (iLt a0.client (a2.l.length : Int))),(some true),(some (iGe a0.domain 1)),(some (iGe a0.domain 1)),(some false),none,(some false),(some false),none,(some false),rfl,rfl,hF⟩)))))
  exact wF 22 hc2 (wp 34 (we (de (then_n (x_to hJ1 (VS.si [0,1,2] 274877903663 (by kernel_rfl) (sk rfl (sr low_cS rfl (sn (noref_mpb (fun _=>low_agg (low_cRing_tagged _)) (fun _=>rfl) _) rfl shh_nil)))) ⟨false,(some true),(some (iLt a0.client (a2.l.length : Int))),(some (iLt a0.client (a2.l.length : Int))),(some false),none,(some false),(some false),none,(some false),(some false),none,(some false),rfl,rfl,hF⟩)))))
 exact wF 12 hc1 (wp 34 (we (de (then_n (x_to hJ1 (VS.si [0,1,2] 274877903663 (by kernel_rfl) (sk rfl (sr low_cS rfl (sn (noref_mpb (fun _=>low_agg (low_cRing_tagged _)) (fun _=>rfl) _) rfl shh_nil)))) ⟨false,(some false),none,(some false),(some false),none,(some false),(some false),none,(some false),(some false),none,(some false),rfl,rfl,hF⟩)))))
def ring_Ring_tag (a0 : Ring_tagged) (a1 : List UInt8) (a2 : Sl (List UInt8)) (a3 : Mp Ring_tagged Int) : Option (Arr 32) :=
  (idxL a2.l a0.client).bind fun y134=>(lay_Number a0.domain).bind fun y135=>(mac_Tag y134 (⟨false,true,[y135,a0.text]⟩ : Sl (List UInt8))).bind fun y136=>some y136
theorem ring_Ring_tag_ev {a0 : Ring_tagged} {a1 : List UInt8} {a2 : Sl (List UInt8)} {a3 : Mp Ring_tagged Int} {r : (Arr 32)} (hF : ring_Ring_tag a0 a1 a2 a3=some r) : EvCall Tryz.prog T G0 115 [.ptr 0 0,.agg (cRing_tagged a0)] [.cells (cS a1++[rfv false a2 1 1]++[.map 2]),rfb cS a2,mpb (fun a=>AV.agg (cRing_tagged a)) (AV.int .i64) a3] (fun v H'=>v=.agg ((cA .u8) r)∧H'=[.cells (cS a1++[rfv false a2 1 1]++[.map 2]),rfb cS a2,mpb (fun a=>AV.agg (cRing_tagged a)) (AV.int .i64) a3]):=by
 refine xc Tryz.func115 ?_
 refine xq (wr 2 [.cells (cS a1++[rfv false a2 1 1]++[.map 2]),rfb cS a2,mpb (fun a=>AV.agg (cRing_tagged a)) (AV.int .i64) a3,.cells (cRing_tagged a0),.cells ((cA .u8) (Arr.zero 32))] (we (ng (xs (x_rows 0 32767 [⟨15,[],[],[],[]⟩] call_ends callMono (by kernel_rfl) (by kernel_rfl) (wp 6 (bind_elim hF (fun y134 hy134 hF=>w_riaddr (t:=59) (e:=9) (l:=1) (ex:=false) (nl:=a2.nl&&a2.l.isEmpty) (kd:=.i64) (k:=0) (sz:=1) (len:=a2.l.length) (b:=a2.l) hy134 (Nat.le_refl _) (by kernel_rfl) (by kernel_rfl) (by kernel_rfl) (w_rload cS (l:=1) (t:=9) (sz:=1) (fo:=0) (j:=(0+a0.client.toNat)) a2 (v:=.str y134) (z:=1) (idxL_nat hy134) (by kernel_rfl) (by kernel_rfl) (fun _=>rfl) (by kernel_rfl) (by kernel_rfl) (by decide) (by decide) (wp 10 (bind_elim hF (fun y135 hy135 hF=>uC (lay_Number_ev hy135) (lows_cons rfl rfl) rfl (wp 13 (w_frz (v:=sl cS (⟨false,true,[y135,a0.text]⟩ : Sl (List UInt8))) (by kernel_rfl) (bind_elim hF (fun y136 hy136 hF=>uC (mac_Tag_ev hy136) (lows_cons rfl (lows_cons (low_sl low_cS) rfl)) (low_agg (low_cA _)) (we (rows_next (wr 1 [.cells (cS a1++[rfv false a2 1 1]++[.map 2]),rfb cS a2,mpb (fun a=>AV.agg (cRing_tagged a)) (AV.int .i64) a3,.cells (cRing_tagged a0),.cells ((cA .u8) y136)] (we (⟨⟨(by kernel_rfl),trivial⟩,(we (rows_done (de (ng (xt ?_)))))⟩)))))))))))))))))))))
 cases hF
 exact fS [0,1,2] (.inl rfl) (tight_agg (tights_lows (low_cA _))) (sk rfl (sr low_cS rfl (sn (noref_mpb (fun _=>low_agg (low_cRing_tagged _)) (fun _=>rfl) _) rfl shh_nil))) ⟨rfl,rfl⟩
def ring_Ring_Check_J1 (p118 : Bool) : Option Bool :=
  some p118
def ring_Ring_Check (a0 : Int) (a1 : Int) (a2 : List UInt8) (a3 : Arr 32) (a4 : List UInt8) (a5 : Sl (List UInt8)) (a6 : Mp Ring_tagged Int) : Option Bool :=
  (ring_Ring_may (⟨a0,a1,a2⟩ : Ring_tagged) a4 a5 a6).bind fun y125=>if y125=true then (ring_Ring_tag (⟨a0,a1,a2⟩ : Ring_tagged) a4 a5 a6).bind fun y126=>ring_Ring_Check_J1 (eqA y126 a3) else ring_Ring_Check_J1 false
theorem ring_Ring_Check_ev {a0 : Int} {a1 : Int} {a2 : List UInt8} {a3 : Arr 32} {a4 : List UInt8} {a5 : Sl (List UInt8)} {a6 : Mp Ring_tagged Int} {r : Bool} (hF : ring_Ring_Check a0 a1 a2 a3 a4 a5 a6=some r) : EvCall Tryz.prog T G0 112 [.ptr 0 0,.int .i64 a0,.int .i64 a1,.str a2,.agg ((cA .u8) a3)] [.cells (cS a4++[rfv false a5 1 1]++[.map 2]),rfb cS a5,mpb (fun a=>AV.agg (cRing_tagged a)) (AV.int .i64) a6] (fun v H'=>v=.bool r∧H'=[.cells (cS a4++[rfv false a5 1 1]++[.map 2]),rfb cS a5,mpb (fun a=>AV.agg (cRing_tagged a)) (AV.int .i64) a6]):=by
 refine xc Tryz.func112 ?_
 refine xq (wr 2 [.cells (cS a4++[rfv false a5 1 1]++[.map 2]),rfb cS a5,mpb (fun a=>AV.agg (cRing_tagged a)) (AV.int .i64) a6,.cells ((cA .u8) a3)] (we (ng (xq (wr 6 [.cells (cS a4++[rfv false a5 1 1]++[.map 2]),rfb cS a5,mpb (fun a=>AV.agg (cRing_tagged a)) (AV.int .i64) a6,.cells ((cA .u8) a3),.cells (cRing_tagged (⟨a0,a1,a2⟩ : Ring_tagged))] (we (ng ?_)))))))
 refine xj (fun fr H=>∃ (p118 : Bool) (g119 : Option Bool) (g120 : Option Bool) (g121 : Option Bool) (g122 : Option Bool),fr=[.any,.any,.any,.any,.any,.any,.any,.any,.any,.any,.bool p118,.any,.any,.any,.any,.any,.any,.any,junkB g119,junkB g120,.any,.any,.any,.any,junkB g121,junkB g122]∧H=[.cells (cS a4++[rfv false a5 1 1]++[.map 2]),rfb cS a5,mpb (fun a=>AV.agg (cRing_tagged a)) (AV.int .i64) a6]∧ring_Ring_Check_J1 p118=some r) (fun fr H ⟨p118,g119,g120,g121,g122,e1,e2,hF⟩=>?_) (fun hJ1=>?_)
 ·subst e1 e2
  refine xt ?_
  cases hF
  exact fS [0,1,2] (.inl rfl) rfl (sk rfl (sr low_cS rfl (sn (noref_mpb (fun _=>low_agg (low_cRing_tagged _)) (fun _=>rfl) _) rfl shh_nil))) ⟨rfl,rfl⟩
 refine xd 0 call_ends callMono (wp 2 (bind_elim hF (fun y125 hy125 hF=>uOs [0,1,2] [0,1,2] (v:=.bool y125) [.cells (cS a4++[rfv false a5 1 1]++[.map 2]),rfb cS a5,mpb (fun a=>AV.agg (cRing_tagged a)) (AV.int .i64) a6] (ring_Ring_may_ev hy125) (tights_cons rfl (tights_cons (tight_agg (tights_lows (low_cRing_tagged _))) rfl)) (pl (b':=.cells (cS a4++[rfv false a5 1 1]++[.map 2])) (by kernel_rfl) (sb_cells (by kernel_rfl) (by kernel_rfl) (by kernel_rfl)) (pl (b':=rfb cS a5) (by kernel_rfl) (sb_low (noref_rfb low_cS _)) (pl (b':=mpb (fun a=>AV.agg (cRing_tagged a)) (AV.int .i64) a6) (by kernel_rfl) (sb_low (noref_mpb (fun _=>low_agg (low_cRing_tagged _)) (fun _=>rfl) _)) pl_nil))) rfl (sbs (sb_cells (by kernel_rfl) (by kernel_rfl) (by kernel_rfl)) (sbs (sb_low (noref_rfb low_cS _)) (sbs (sb_low (noref_mpb (fun _=>low_agg (low_cRing_tagged _)) (fun _=>rfl) _)) sbs_nil))) (wp 4 ?_))))
 refine ite_elim hF (fun hc1 hF=>?_) (fun hc1 hF=>?_)
 ·exact wT 19 hc1 (wp 6 (bind_elim hF (fun y126 hy126 hF=>uOs [0,1,2] [0,1,2] (v:=.agg ((cA .u8) y126)) [.cells (cS a4++[rfv false a5 1 1]++[.map 2]),rfb cS a5,mpb (fun a=>AV.agg (cRing_tagged a)) (AV.int .i64) a6] (ring_Ring_tag_ev hy126) (tights_cons rfl (tights_cons (tight_agg (tights_lows (low_cRing_tagged _))) rfl)) (pl (b':=.cells (cS a4++[rfv false a5 1 1]++[.map 2])) (by kernel_rfl) (sb_cells (by kernel_rfl) (by kernel_rfl) (by kernel_rfl)) (pl (b':=rfb cS a5) (by kernel_rfl) (sb_low (noref_rfb low_cS _)) (pl (b':=mpb (fun a=>AV.agg (cRing_tagged a)) (AV.int .i64) a6) (by kernel_rfl) (sb_low (noref_mpb (fun _=>low_agg (low_cRing_tagged _)) (fun _=>rfl) _)) pl_nil))) (tight_agg (tights_lows (low_cA _))) (sbs (sb_cells (by kernel_rfl) (by kernel_rfl) (by kernel_rfl)) (sbs (sb_low (noref_rfb low_cS _)) (sbs (sb_low (noref_mpb (fun _=>low_agg (low_cRing_tagged _)) (fun _=>rfl) _)) sbs_nil))) (wp 8 (w_eql (b:=eqA y126 a3) (by kernel_rfl) (wp 11 (we (de (then_n (x_to hJ1 (VS.si [0,1,2] 67107839 (by kernel_rfl) (sk rfl (sr low_cS rfl (sn (noref_mpb (fun _=>low_agg (low_cRing_tagged _)) (fun _=>rfl) _) rfl shh_nil)))) ⟨eqA y126 a3,(some y125),(some true),(some (eqA y126 a3)),(some (eqA y126 a3)),rfl,rfl,hF⟩))))))))))
 exact wF 19 hc1 (wp 11 (we (de (then_n (x_to hJ1 (VS.si [0,1,2] 67107839 (by kernel_rfl) (sk rfl (sr low_cS rfl (sn (noref_mpb (fun _=>low_agg (low_cRing_tagged _)) (fun _=>rfl) _) rfl shh_nil)))) ⟨false,(some y125),(some false),none,(some false),rfl,rfl,hF⟩)))))
def verify_holds (a0 : Verify_tag) (a1 : List UInt8) (a2 : Sl (List UInt8)) (a3 : Mp Ring_tagged Int) : Option Bool :=
  (ring_Ring_Check a0.client a0.domain a0.text a0.tag a1 a2 a3).bind fun y114=>some y114
theorem verify_holds_ev {a0 : Verify_tag} {a1 : List UInt8} {a2 : Sl (List UInt8)} {a3 : Mp Ring_tagged Int} {r : Bool} (hF : verify_holds a0 a1 a2 a3=some r) : EvCall Tryz.prog T G0 63 [.ptr 0 0,.agg (cVerify_tag a0)] [.cells (cS a1++[rfv false a2 1 1]++[.map 2]),rfb cS a2,mpb (fun a=>AV.agg (cRing_tagged a)) (AV.int .i64) a3] (fun v H'=>v=.bool r∧H'=[.cells (cS a1++[rfv false a2 1 1]++[.map 2]),rfb cS a2,mpb (fun a=>AV.agg (cRing_tagged a)) (AV.int .i64) a3]):=by
 refine xc Tryz.func63 ?_
 refine xq (wr 2 [.cells (cS a1++[rfv false a2 1 1]++[.map 2]),rfb cS a2,mpb (fun a=>AV.agg (cRing_tagged a)) (AV.int .i64) a3,.cells (cVerify_tag a0)] (we (ng (xq (wh 9 (bind_elim hF (fun y114 hy114 hF=>uOs [0,1,2] [0,1,2] (v:=.bool y114) [.cells (cS a1++[rfv false a2 1 1]++[.map 2]),rfb cS a2,mpb (fun a=>AV.agg (cRing_tagged a)) (AV.int .i64) a3] (ring_Ring_Check_ev hy114) (tights_cons rfl (tights_cons rfl (tights_cons rfl (tights_cons rfl (tights_cons (tight_agg (tights_lows (low_cA _))) rfl))))) (pl (b':=.cells (cS a1++[rfv false a2 1 1]++[.map 2])) (by kernel_rfl) (sb_cells (by kernel_rfl) (by kernel_rfl) (by kernel_rfl)) (pl (b':=rfb cS a2) (by kernel_rfl) (sb_low (noref_rfb low_cS _)) (pl (b':=mpb (fun a=>AV.agg (cRing_tagged a)) (AV.int .i64) a3) (by kernel_rfl) (sb_low (noref_mpb (fun _=>low_agg (low_cRing_tagged _)) (fun _=>rfl) _)) pl_nil))) rfl (sbs (sb_cells (by kernel_rfl) (by kernel_rfl) (by kernel_rfl)) (sbs (sb_low (noref_rfb low_cS _)) (sbs (sb_low (noref_mpb (fun _=>low_agg (low_cRing_tagged _)) (fun _=>rfl) _)) sbs_nil))) (wh 11 (we (ng (xt ?_)))))))))))
 cases hF
 exact fS [0,1,2] (.inl rfl) rfl (sk rfl (sr low_cS rfl (sn (noref_mpb (fun _=>low_agg (low_cRing_tagged _)) (fun _=>rfl) _) rfl shh_nil))) ⟨rfl,rfl⟩
def hist_Upto_J1  : Option (List UInt8) :=
  some []
def hist_Upto_B150 (a0 : List UInt8) (a1 : Int) (k150 : Int→Option (List UInt8)) (x150 : Int) : Option (List UInt8) :=
  if iGe x150 0=true then (idxB a0 x150).bind fun y153=>if (IntKind.wrap .i64 y153==a1)=true then (cutS a0 none (some (iAdd .i64 x150 1))).bind fun y154=>some y154 else k150 (iSub .i64 x150 1) else hist_Upto_J1
def hist_Upto (a0 : List UInt8) (a1 : Int) : Option (List UInt8) :=
  loopN (hist_Upto_B150 a0 a1) FUEL (iSub .i64 (a0.length : Int) 1)
theorem hist_Upto_ev {a0 : List UInt8} {a1 : Int} {r : (List UInt8)} (hF : hist_Upto a0 a1=some r) : EvCall Tryz.prog T G0 64 [.str a0,.int .i64 a1] [] (fun v H'=>v=.str r∧H'=[]):=by
 refine xc Tryz.func64 ?_
 refine xq (wh 1 (we (ng ?_)))
 refine xj (fun fr H=>∃ (g135 : Option Bool),fr=[.any,.any,.any,.any,.any,.any,.any,.any,.any,.any,.bool false,.any,.any,.any,.any,.any,.any,.any,junkB g135,.any,.any,.any,.any]∧H=[]∧hist_Upto_J1=some r) (fun fr H ⟨g135,e1,e2,hF⟩=>?_) (fun hJ1=>?_)
 ·subst e1 e2
  refine xq (wh 1 (we (ng (xt ?_))))
  cases hF
  exact fE [] (.inl rfl) rfl ⟨rfl,rfl⟩
 refine xq (wh 4 (we (ng (xb (x_loop (fun d fr H=>∃ (x150 : Int) (g141 : Option Bool) (g142 : Option Bool),fr=[.str a0,.int .i64 a1,.any,.any,.any,.int .i64 x150,.any,.any,.any,.any,junkB g141,.any,.any,.any,.any,.any,.any,.any,junkB g142,.any,.any,.any,.any]∧H=[]∧loopN (hist_Upto_B150 a0 a1) d x150=some r) (by kernel_rfl) (fun fr H ⟨x150,g141,g142,e1,e2,hF⟩=>loop_no hF) (fun d150 fr H ⟨x150,g141,g142,e1,e2,hF⟩=>?_) (VS.sm 8388572) ⟨iSub .i64 (a0.length : Int) 1,none,none,rfl,rfl,hF⟩)))))
 subst e1 e2
 have hF:=loop_in hF
 refine xs (xq (wh 2 (we (ng ?_))))
 refine ite_elim hF (fun hc1 hF=>?_) (fun hc1 hF=>?_)
 ·refine kT 10 hc1 (xT (xk (ng (xs (xb (xq (wh 2 (bind_elim hF (fun y153 hy153 hF=>w_idx (by kernel_rfl) hy153 (wh 6 (we (ng ?_))))))))))))
  refine ite_elim hF (fun hc2 hF=>?_) (fun hc2 hF=>?_)
  ·refine kT 18 hc2 (xT (xq (wh 3 (bind_elim hF (fun y154 hy154 hF=>w_cut (by kernel_rfl) hy154 (wh 5 (we (ng (xt (block_r (then_r (then_r (block_r (then_r ?_))))))))))))))
   cases hF
   exact fE [] (.inl rfl) rfl ⟨rfl,rfl⟩
  exact kF 18 hc2 (xF (xk (block_n (ng (xr (wh 3 (we (then_n (x_back (VS.sm 8388572) ⟨iSub .i64 x150 1,(some true),(some false),rfl,rfl,hF⟩)))))))))
 exact kF 10 hc1 (xF (xe (then_e (then_e (block_e (then_n (x_to hJ1 (VS.sm 8125439) ⟨g142,rfl,rfl,hF⟩)))))))
def verify_Step_J2 (a0 : List UInt8) (a1 : Pending) : Option ((List UInt8)×Int) :=
  (catS a0 (bytesS (⟨false,true,[IntKind.wrap .u8 a1.Client]⟩ : Sl Int).l)).bind fun y123=>some (y123,0)
def verify_Step_J1 (a0 : List UInt8) (a1 : Pending) (a2 : List UInt8) (a3 : Sl (List UInt8)) (a4 : Mp Ring_tagged Int) : Option ((List UInt8)×Int) :=
  (msg_Asked a1.Client (⟨a1.Number,a1.Kind,a1.Target,[],(Arr.zero 32),(Arr.zero 32)⟩ : Submit)).bind fun y104=>(histCountF a0 a1.Client).bind fun y125=>if (a1.Number != iAdd .i64 y125 1)=true then some ([],8) else (verify_holds (⟨a1.Client,1,y104,a1.Asked⟩ : Verify_tag) a2 a3 a4).bind fun y126=>if y126=true then if iGt a1.Number 1=true then (hist_Upto a0 a1.Client).bind fun y133=>(verify_holds (⟨a1.Client,3,y133,a1.Proof⟩ : Verify_tag) a2 a3 a4).bind fun y134=>if y134=true then if iGe (a0.length : Int) 512=true then some ([],11) else verify_Step_J2 a0 a1 else some ([],7) else if iGe (a0.length : Int) 512=true then some ([],11) else verify_Step_J2 a0 a1 else some ([],7)
def verify_Step (a0 : List UInt8) (a1 : Pending) (a2 : List UInt8) (a3 : Sl (List UInt8)) (a4 : Mp Ring_tagged Int) : Option ((List UInt8)×Int) :=
  (verify_is a1.Client a2 a3 a4).bind fun y137=>if y137=true then (verify_is a1.Target a2 a3 a4).bind fun y138=>if y138=true then if iLt a1.Number 1=true then some ([],2) else if iGt a1.Number 512=true then some ([],2) else if (a1.Kind != 1)=true then if (a1.Kind != 2)=true then some ([],2) else verify_Step_J1 a0 a1 a2 a3 a4 else verify_Step_J1 a0 a1 a2 a3 a4 else some ([],2) else some ([],2)
theorem verify_Step_ev {a0 : List UInt8} {a1 : Pending} {a2 : List UInt8} {a3 : Sl (List UInt8)} {a4 : Mp Ring_tagged Int} {r : (List UInt8)×Int} (hF : verify_Step a0 a1 a2 a3 a4=some r) : EvCall Tryz.prog T G0 17 [.ptr 0 0,.str a0,.agg (cPending a1)] [.cells (cS a2++[rfv false a3 1 1]++[.map 2]),rfb cS a3,mpb (fun a=>AV.agg (cRing_tagged a)) (AV.int .i64) a4] (fun v H'=>v=.tup [.str r.1,.int .i64 r.2]∧H'=[.cells (cS a2++[rfv false a3 1 1]++[.map 2]),rfb cS a3,mpb (fun a=>AV.agg (cRing_tagged a)) (AV.int .i64) a4]):=by
 refine xc Tryz.func17 ?_
 refine xq (wr 3 [.cells (cS a2++[rfv false a3 1 1]++[.map 2]),rfb cS a3,mpb (fun a=>AV.agg (cRing_tagged a)) (AV.int .i64) a4,.cells (cPending a1)] (we (ng (xs (xq (wh 2 (we (ng (xF (xk (ng ?_)))))))))))
 refine xj (fun fr H=>∃ (g96 : Option Bool) (g97 : Option Bool) (g98 : Option Bool) (g99 : Option Bool) (g100 : Option Bool) (g101 : Option Bool) (g102 : Option Bool) (g103 : Option Bool),fr=[.ptr 0 0,.str a0,.any,.any,.any,.ptr 3 0,.any,.any,.any,.any,.bool false,.any,.any,.any,junkB g96,junkB g97,.bool false,.any,.any,.any,junkB g98,junkB g99,junkB g100,.bool false,.any,.any,.bool (iLt a1.Number 1),.bool (iLt a1.Number 1),.bool false,.any,.any,.bool (iGt a1.Number 512),.bool (iGt a1.Number 512),.bool false,.any,.any,.bool (a1.Kind != 1),junkB g101,.any,.any,junkB g102,junkB g103,.bool false,.any,.any,.any,.any,.any,.any,.any,.any,.any,.any,.any,.any,.any,.any,.any,.any,.any,.any,.any,.any,.any,.any,.any,.any,.any,.any,.any,.any,.any,.any,.any,.any,.any,.any,.any,.any,.any,.any,.any,.any,.any,.any,.any,.any,.any,.any,.any,.any,.any,.any,.any,.any,.any,.any,.any,.any,.any,.any]∧H=[.cells (cS a2++[rfv false a3 1 1]++[.map 2]),rfb cS a3,mpb (fun a=>AV.agg (cRing_tagged a)) (AV.int .i64) a4,.cells (cPending a1)]∧verify_Step_J1 a0 a1 a2 a3 a4=some r) (fun fr H ⟨g96,g97,g98,g99,g100,g101,g102,g103,e1,e2,hF⟩=>?_) (fun hJ1=>?_)
 ·subst e1 e2
  refine xq (wh 9 (bind_elim hF (fun y104 hy104 hF=>uC (msg_Asked_ev hy104) (lows_cons rfl (lows_cons (low_agg (low_cSubmit _)) rfl)) rfl (wh 11 (we (ng ?_))))))
  refine xj (fun fr H=>∃ (g116 : Option Bool) (g117 : Option Bool) (g118 : Option Bool) (g119 : Option Bool) (g120 : Option Bool) (g121 : Option Bool) (g122 : Option Bool),fr=[.any,.str a0,.any,.any,.any,.ptr 3 0,.any,.any,.any,.any,.bool false,.any,.any,.any,junkB g96,junkB g97,.bool false,.any,.any,.any,junkB g98,junkB g99,junkB g100,.bool false,.any,.any,.bool (iLt a1.Number 1),.bool (iLt a1.Number 1),.bool false,.any,.any,.bool (iGt a1.Number 512),.bool (iGt a1.Number 512),.bool false,.any,.any,.bool (a1.Kind != 1),junkB g101,.any,.any,junkB g102,junkB g103,.bool false,.any,.any,.any,.any,.any,.any,.any,.any,.any,.any,.bool false,.any,.any,.any,.any,.any,.any,.any,junkB g116,.bool false,.any,.any,.any,.any,.any,.any,.any,junkB g117,junkB g118,.bool false,.any,.any,.bool (iGt a1.Number 1),junkB g119,.any,.any,.any,.any,.any,.any,.any,.any,.any,.any,junkB g120,junkB g121,junkB g122,.bool false,.any,.any,.bool (iGe (a0.length : Int) 512),.any,.any,.any,.any,.any,.any,.any]∧H=[.cells (cS a2++[rfv false a3 1 1]++[.map 2]),rfb cS a3,mpb (fun a=>AV.agg (cRing_tagged a)) (AV.int .i64) a4,.cells (cPending a1)]∧verify_Step_J2 a0 a1=some r) (fun fr H ⟨g116,g117,g118,g119,g120,g121,g122,e1,e2,hF⟩=>?_) (fun hJ2=>?_)
  ·subst e1 e2
   refine xq (wh 4 (w_frz (v:=sl (cI .u8) (⟨false,true,[IntKind.wrap .u8 a1.Client]⟩ : Sl Int)) (by kernel_rfl) (w_str (l:=(⟨false,true,[IntKind.wrap .u8 a1.Client]⟩ : Sl Int).l) (by kernel_rfl) (bind_elim hF (fun y123 hy123 hF=>w_cat (by kernel_rfl) hy123 (wh 9 (we (ng (xt ?_)))))))))
   cases hF
   exact fS [0,1,2] (.inl rfl) rfl (sk rfl (sr low_cS rfl (sn (noref_mpb (fun _=>low_agg (low_cRing_tagged _)) (fun _=>rfl) _) rfl shh_nil))) ⟨rfl,rfl⟩
  refine xb (xs (xd 0 call_ends callMono (wp 5 (bind_elim hF (fun y125 hy125 hF=>uC (histCountF_ev hy125) (lows_cons rfl (lows_cons rfl rfl)) rfl (wp 9 (we (de (ng ?_)))))))))
  refine ite_elim hF (fun hc1 hF=>?_) (fun hc1 hF=>?_)
  ·refine kT 53 hc1 (xT (xq (wh 2 (we (ng (xt (block_r (then_r ?_))))))))
   cases hF
   exact fS [0,1,2] (.inl rfl) rfl (sk rfl (sr low_cS rfl (sn (noref_mpb (fun _=>low_agg (low_cRing_tagged _)) (fun _=>rfl) _) rfl shh_nil))) ⟨rfl,rfl⟩
  refine kF 53 hc1 (xF (xq (wh 7 (bind_elim hF (fun y126 hy126 hF=>uOs [0,1,2] [0,1,2] (v:=.bool y126) [.cells (cS a2++[rfv false a3 1 1]++[.map 2]),rfb cS a3,mpb (fun a=>AV.agg (cRing_tagged a)) (AV.int .i64) a4] (verify_holds_ev hy126) (tights_cons rfl (tights_cons (tight_agg (tights_lows (low_cVerify_tag _))) rfl)) (pl (b':=.cells (cS a2++[rfv false a3 1 1]++[.map 2])) (by kernel_rfl) (sb_cells (by kernel_rfl) (by kernel_rfl) (by kernel_rfl)) (pl (b':=rfb cS a3) (by kernel_rfl) (sb_low (noref_rfb low_cS _)) (pl (b':=mpb (fun a=>AV.agg (cRing_tagged a)) (AV.int .i64) a4) (by kernel_rfl) (sb_low (noref_mpb (fun _=>low_agg (low_cRing_tagged _)) (fun _=>rfl) _)) pl_nil))) rfl (sbs (sb_cells (by kernel_rfl) (by kernel_rfl) (by kernel_rfl)) (sbs (sb_low (noref_rfb low_cS _)) (sbs (sb_low (noref_mpb (fun _=>low_agg (low_cRing_tagged _)) (fun _=>rfl) _)) sbs_nil))) (wh 10 (we (ng ?_))))))))
  refine ite_elim hF (fun hc2 hF=>?_) (fun hc2 hF=>?_)
  ·refine kF 62 (show (!y126)=false by rw [hc2]; rfl) (xF (xs (xd 0 call_ends callMono (wp 4 ?_))))
   refine ite_elim hF (fun hc3 hF=>?_) (fun hc3 hF=>?_)
   ·refine wT 76 hc3 (wp 10 (bind_elim hF (fun y133 hy133 hF=>uC (hist_Upto_ev hy133) (lows_cons rfl (lows_cons rfl rfl)) rfl (wp 14 (bind_elim hF (fun y134 hy134 hF=>uOs [0,1,2] [0,1,2] (v:=.bool y134) [.cells (cS a2++[rfv false a3 1 1]++[.map 2]),rfb cS a3,mpb (fun a=>AV.agg (cRing_tagged a)) (AV.int .i64) a4] (verify_holds_ev hy134) (tights_cons rfl (tights_cons (tight_agg (tights_lows (low_cVerify_tag _))) rfl)) (pl (b':=.cells (cS a2++[rfv false a3 1 1]++[.map 2])) (by kernel_rfl) (sb_cells (by kernel_rfl) (by kernel_rfl) (by kernel_rfl)) (pl (b':=rfb cS a3) (by kernel_rfl) (sb_low (noref_rfb low_cS _)) (pl (b':=mpb (fun a=>AV.agg (cRing_tagged a)) (AV.int .i64) a4) (by kernel_rfl) (sb_low (noref_mpb (fun _=>low_agg (low_cRing_tagged _)) (fun _=>rfl) _)) pl_nil))) rfl (sbs (sb_cells (by kernel_rfl) (by kernel_rfl) (by kernel_rfl)) (sbs (sb_low (noref_rfb low_cS _)) (sbs (sb_low (noref_mpb (fun _=>low_agg (low_cRing_tagged _)) (fun _=>rfl) _)) sbs_nil))) (wp 18 (we (de (ng ?_))))))))))
    refine ite_elim hF (fun hc4 hF=>?_) (fun hc4 hF=>?_)
    ·refine kF 72 (show (!y134)=false by rw [hc4]; rfl) (xF (xq (wh 4 (we (ng ?_)))))
     refine ite_elim hF (fun hc5 hF=>?_) (fun hc5 hF=>?_)
     ·refine kT 90 hc5 (xT (xq (wh 2 (we (ng (xt (block_r (then_r ?_))))))))
      cases hF
      exact fS [0,1,2] (.inl rfl) rfl (sk rfl (sr low_cS rfl (sn (noref_mpb (fun _=>low_agg (low_cRing_tagged _)) (fun _=>rfl) _) rfl shh_nil))) ⟨rfl,rfl⟩
     exact kF 90 hc5 (xF (xk (block_n (then_n (x_to hJ2 (VS.sm 2524159697596971333556567423965) ⟨(some (a1.Number != iAdd .i64 y125 1)),(some y126),(some (!y126)),(some true),(some y134),(some (!y134)),(some (!y134)),rfl,rfl,hF⟩)))))
    refine kT 72 (show (!y134)=true by rw [hc4]; rfl) (xT (xq (wh 2 (we (ng (xt (block_r (then_r ?_))))))))
    cases hF
    exact fS [0,1,2] (.inl rfl) rfl (sk rfl (sr low_cS rfl (sn (noref_mpb (fun _=>low_agg (low_cRing_tagged _)) (fun _=>rfl) _) rfl shh_nil))) ⟨rfl,rfl⟩
   refine wF 76 hc3 (wp 18 (we (de (ng (xF (xq (wh 4 (we (ng ?_)))))))))
   refine ite_elim hF (fun hc6 hF=>?_) (fun hc6 hF=>?_)
   ·refine kT 90 hc6 (xT (xq (wh 2 (we (ng (xt (block_r (then_r ?_))))))))
    cases hF
    exact fS [0,1,2] (.inl rfl) rfl (sk rfl (sr low_cS rfl (sn (noref_mpb (fun _=>low_agg (low_cRing_tagged _)) (fun _=>rfl) _) rfl shh_nil))) ⟨rfl,rfl⟩
   exact kF 90 hc6 (xF (xk (block_n (then_n (x_to hJ2 (VS.sm 2524159697596971333556567423965) ⟨(some (a1.Number != iAdd .i64 y125 1)),(some y126),(some (!y126)),(some false),none,none,(some false),rfl,rfl,hF⟩)))))
  refine kT 62 (show (!y126)=true by rw [hc2]; rfl) (xT (xq (wh 2 (we (ng (xt (block_r (then_r ?_))))))))
  cases hF
  exact fS [0,1,2] (.inl rfl) rfl (sk rfl (sr low_cS rfl (sn (noref_mpb (fun _=>low_agg (low_cRing_tagged _)) (fun _=>rfl) _) rfl shh_nil))) ⟨rfl,rfl⟩
 refine xq (wh 3 (bind_elim hF (fun y137 hy137 hF=>uOs [0,1,2] [0,1,2] (v:=.bool y137) [.cells (cS a2++[rfv false a3 1 1]++[.map 2]),rfb cS a3,mpb (fun a=>AV.agg (cRing_tagged a)) (AV.int .i64) a4] (verify_is_ev hy137) (by kernel_rfl) (pl (b':=.cells (cS a2++[rfv false a3 1 1]++[.map 2])) (by kernel_rfl) (sb_cells (by kernel_rfl) (by kernel_rfl) (by kernel_rfl)) (pl (b':=rfb cS a3) (by kernel_rfl) (sb_low (noref_rfb low_cS _)) (pl (b':=mpb (fun a=>AV.agg (cRing_tagged a)) (AV.int .i64) a4) (by kernel_rfl) (sb_low (noref_mpb (fun _=>low_agg (low_cRing_tagged _)) (fun _=>rfl) _)) pl_nil))) rfl (sbs (sb_cells (by kernel_rfl) (by kernel_rfl) (by kernel_rfl)) (sbs (sb_low (noref_rfb low_cS _)) (sbs (sb_low (noref_mpb (fun _=>low_agg (low_cRing_tagged _)) (fun _=>rfl) _)) sbs_nil))) (wh 6 ?_))))
 refine ite_elim hF (fun hc7 hF=>?_) (fun hc7 hF=>?_)
 ·refine wF 16 (show (!y137)=false by rw [hc7]; rfl) (wh 9 (bind_elim hF (fun y138 hy138 hF=>uOs [0,1,2] [0,1,2] (v:=.bool y138) [.cells (cS a2++[rfv false a3 1 1]++[.map 2]),rfb cS a3,mpb (fun a=>AV.agg (cRing_tagged a)) (AV.int .i64) a4] (verify_is_ev hy138) (by kernel_rfl) (pl (b':=.cells (cS a2++[rfv false a3 1 1]++[.map 2])) (by kernel_rfl) (sb_cells (by kernel_rfl) (by kernel_rfl) (by kernel_rfl)) (pl (b':=rfb cS a3) (by kernel_rfl) (sb_low (noref_rfb low_cS _)) (pl (b':=mpb (fun a=>AV.agg (cRing_tagged a)) (AV.int .i64) a4) (by kernel_rfl) (sb_low (noref_mpb (fun _=>low_agg (low_cRing_tagged _)) (fun _=>rfl) _)) pl_nil))) rfl (sbs (sb_cells (by kernel_rfl) (by kernel_rfl) (by kernel_rfl)) (sbs (sb_low (noref_rfb low_cS _)) (sbs (sb_low (noref_mpb (fun _=>low_agg (low_cRing_tagged _)) (fun _=>rfl) _)) sbs_nil))) (wh 13 ?_))))
  refine ite_elim hF (fun hc8 hF=>?_) (fun hc8 hF=>?_)
  ·refine wF 23 (show (!y138)=false by rw [hc8]; rfl) (wh 18 ?_)
   refine ite_elim hF (fun hc9 hF=>?_) (fun hc9 hF=>?_)
   ·refine wT 28 hc9 (wh 32 (we (ng (xT (xq (wh 2 (we (ng (xt (then_r ?_))))))))))
    cases hF
    exact fS [0,1,2] (.inl rfl) rfl (sk rfl (sr low_cS rfl (sn (noref_mpb (fun _=>low_agg (low_cRing_tagged _)) (fun _=>rfl) _) rfl shh_nil))) ⟨rfl,rfl⟩
   refine wF 28 hc9 (wh 23 ?_)
   refine ite_elim hF (fun hc10 hF=>?_) (fun hc10 hF=>?_)
   ·refine wT 33 hc10 (wh 32 (we (ng (xT (xq (wh 2 (we (ng (xt (then_r ?_))))))))))
    cases hF
    exact fS [0,1,2] (.inl rfl) rfl (sk rfl (sr low_cS rfl (sn (noref_mpb (fun _=>low_agg (low_cRing_tagged _)) (fun _=>rfl) _) rfl shh_nil))) ⟨rfl,rfl⟩
   refine wF 33 hc10 (wh 27 ?_)
   refine ite_elim hF (fun hc11 hF=>?_) (fun hc11 hF=>?_)
   ·refine wT 37 hc11 (wh 32 (we (ng ?_)))
    refine ite_elim hF (fun hc12 hF=>?_) (fun hc12 hF=>?_)
    ·refine kT 42 hc12 (xT (xq (wh 2 (we (ng (xt (then_r ?_)))))))
     cases hF
     exact fS [0,1,2] (.inl rfl) rfl (sk rfl (sr low_cS rfl (sn (noref_mpb (fun _=>low_agg (low_cRing_tagged _)) (fun _=>rfl) _) rfl shh_nil))) ⟨rfl,rfl⟩
    exact kF 42 hc12 (xF (xk (then_n (x_to hJ1 (VS.sm 2535301200456458798511129820124) ⟨(some y137),(some (!y137)),(some y138),(some (!y138)),(some (!y138)),(some true),(some (a1.Kind != 2)),(some (a1.Kind != 2)),rfl,rfl,hF⟩))))
   exact wF 37 hc11 (wh 32 (we (ng (xF (xk (then_n (x_to hJ1 (VS.sm 2535301200456458798511129820124) ⟨(some y137),(some (!y137)),(some y138),(some (!y138)),(some (!y138)),(some false),none,(some false),rfl,rfl,hF⟩)))))))
  refine wT 23 (show (!y138)=true by rw [hc8]; rfl) (wh 32 (we (ng (xT (xq (wh 2 (we (ng (xt (then_r ?_))))))))))
  cases hF
  exact fS [0,1,2] (.inl rfl) rfl (sk rfl (sr low_cS rfl (sn (noref_mpb (fun _=>low_agg (low_cRing_tagged _)) (fun _=>rfl) _) rfl shh_nil))) ⟨rfl,rfl⟩
 refine wT 16 (show (!y137)=true by rw [hc7]; rfl) (wh 32 (we (ng (xT (xq (wh 2 (we (ng (xt (then_r ?_))))))))))
 cases hF
 exact fS [0,1,2] (.inl rfl) rfl (sk rfl (sr low_cS rfl (sn (noref_mpb (fun _=>low_agg (low_cRing_tagged _)) (fun _=>rfl) _) rfl shh_nil))) ⟨rfl,rfl⟩
def r14_is_J1 (p140 : Bool) : Option Bool :=
  some p140
def r14_is (a0 : Int) (a1 : Affidavitref04_Ring) : Option Bool :=
  if iGe a0 0=true then r14_is_J1 (iLt a0 a1.N) else r14_is_J1 false
theorem r14_is_ev {a0 : Int} {a1 : Affidavitref04_Ring} {r : Bool} (hF : r14_is a0 a1=some r) : EvCall Tryz.prog T G0 56 [.ptr 0 0,.int .i64 a0] [.cells (cAffidavitref04_Ring a1)] (fun v H'=>v=.bool r∧H'=[.cells (cAffidavitref04_Ring a1)]):=by
 refine xc Tryz.func56 ?_
 refine xq (wh 1 (we (ng ?_)))
 refine xj (fun fr H=>∃ (p140 : Bool) (g141 : Option Bool) (g142 : Option Bool) (g143 : Option Bool),fr=[.any,.any,.any,.any,.bool p140,.any,.bool (iGe a0 0),junkB g141,.any,.any,.any,.any,.any,junkB g142,junkB g143]∧H=[.cells (cAffidavitref04_Ring a1)]∧r14_is_J1 p140=some r) (fun fr H ⟨p140,g141,g142,g143,e1,e2,hF⟩=>?_) (fun hJ1=>?_)
 ·subst e1 e2
  refine xt ?_
  cases hF
  exact fS [0] (.inl rfl) rfl (st (tights_lows (low_cAffidavitref04_Ring _)) rfl shh_nil) ⟨rfl,rfl⟩
 refine xr (wh 3 ?_)
 refine ite_elim hF (fun hc1 hF=>?_) (fun hc1 hF=>?_)
 ·exact wT 7 hc1 (wh 11 (we (then_n (x_to hJ1 (VS.sm 32687) ⟨iLt a0 a1.N,(some true),(some (iLt a0 a1.N)),(some (iLt a0 a1.N)),rfl,rfl,hF⟩))))
 exact wF 7 hc1 (wh 11 (we (then_n (x_to hJ1 (VS.sm 32687) ⟨false,(some false),none,(some false),rfl,rfl,hF⟩))))
def r09_Count_J4 (p173 : Int) : Option Int :=
  some p173
def r09_Count_J7 (k191 : (Int×Int)→Option Int) (x191 : Int×Int) (p193 : Int) : Option Int :=
  k191 (p193,iAdd .i64 x191.2 1)
def r09_Count_B191 (a0 : List UInt8) (a1 : Int) (k191 : (Int×Int)→Option Int) (x191 : Int×Int) : Option Int :=
  if iLt x191.2 (a0.length : Int)=true then (idxB a0 x191.2).bind fun y195=>if (IntKind.wrap .i64 y195==a1)=true then r09_Count_J7 k191 x191 (iAdd .i64 x191.1 1) else r09_Count_J7 k191 x191 x191.1 else r09_Count_J4 x191.1
def r09_Count (a0 : List UInt8) (a1 : Int) : Option Int :=
  loopN (r09_Count_B191 a0 a1) FUEL (0,0)
theorem r09_Count_ev {a0 : List UInt8} {a1 : Int} {r : Int} (hF : r09_Count a0 a1=some r) : EvCall Tryz.prog T G0 27 [.str a0,.int .i64 a1] [] (fun v H'=>v=.int .i64 r∧H'=[]):=by
 refine xc Tryz.func27 ?_
 refine xq (wh 1 (we (ng (xq (wh 1 (we (ng ?_)))))))
 refine xj (fun fr H=>∃ (p173 : Int) (g174 : Option Bool),fr=[.any,.any,.any,.any,.any,.int .i64 p173,.any,.any,.any,.any,.bool false,.any,.any,.any,.any,.any,.any,.any,junkB g174,.any,.any,.any]∧H=[]∧r09_Count_J4 p173=some r) (fun fr H ⟨p173,g174,e1,e2,hF⟩=>?_) (fun hJ4=>?_)
 ·subst e1 e2
  refine xq (wh 2 (we (ng (xt ?_))))
  cases hF
  exact fE [] (.inl rfl) rfl ⟨rfl,rfl⟩
 refine xq (wh 1 (we (ng (xb (x_loop (fun d fr H=>∃ (x191 : Int×Int) (g181 : Option Bool) (g182 : Option Bool),fr=[.str a0,.int .i64 a1,.any,.any,.any,.int .i64 x191.1,.int .i64 x191.2,.any,.any,.any,junkB g181,.any,.any,.any,.any,.any,.any,.any,junkB g182,.any,.any,.any]∧H=[]∧loopN (r09_Count_B191 a0 a1) d x191=some r) (by kernel_rfl) (fun fr H ⟨x191,g181,g182,e1,e2,hF⟩=>loop_no hF) (fun d191 fr H ⟨x191,g181,g182,e1,e2,hF⟩=>?_) (VS.sm 4194204) ⟨(0,0),none,none,rfl,rfl,hF⟩)))))
 subst e1 e2
 have hF:=loop_in hF
 refine xs (xq (wh 4 (we (ng ?_))))
 refine ite_elim hF (fun hc1 hF=>?_) (fun hc1 hF=>?_)
 ·refine kT 10 hc1 (xT (xk (ng ?_)))
  refine xj (fun fr H=>∃ (p193 : Int) (g194 : Option Bool),fr=[.str a0,.int .i64 a1,.any,.any,.any,.int .i64 p193,.int .i64 x191.2,.any,.any,.any,.bool true,.any,.any,.any,.any,.any,.any,.any,junkB g194,.any,.any,.any]∧H=[]∧r09_Count_J7 (loopN (r09_Count_B191 a0 a1) d191) x191 p193=some r) (fun fr H ⟨p193,g194,e1,e2,hF⟩=>?_) (fun hJ7=>?_)
  ·subst e1 e2
   exact xr (wh 3 (we (then_n (x_back (VS.sm 3932060) ⟨(p193,iAdd .i64 x191.2 1),(some true),g194,rfl,rfl,hF⟩))))
  refine xb (xq (wh 2 (bind_elim hF (fun y195 hy195 hF=>w_idx (by kernel_rfl) hy195 (wh 6 (we (ng ?_)))))))
  refine ite_elim hF (fun hc2 hF=>?_) (fun hc2 hF=>?_)
  ·exact kT 18 hc2 (xT (xr (wh 3 (we (block_n (then_n (x_to hJ7 (VS.sm 4193180) ⟨iAdd .i64 x191.1 1,(some true),rfl,rfl,hF⟩)))))))
  exact kF 18 hc2 (xF (xk (block_n (then_n (x_to hJ7 (VS.sm 4193180) ⟨x191.1,(some false),rfl,rfl,hF⟩)))))
 exact kF 10 hc1 (xF (xe (then_e (then_e (block_e (then_n (x_to hJ4 (VS.sm 3931103) ⟨x191.1,g182,rfl,rfl,hF⟩)))))))
def r01_Digits_R (rc : Int→Option (List UInt8)) (a0 : Int) : Option (List UInt8) :=
  if iLt a0 10=true then some (bytesS (⟨false,true,[IntKind.wrap .u8 (iAdd .i64 48 a0)]⟩ : Sl Int).l) else (rc (iQuo .i64 a0 10)).bind fun y203=>(catS y203 (bytesS (⟨false,true,[IntKind.wrap .u8 (iAdd .i64 48 (iRem a0 10))]⟩ : Sl Int).l)).bind fun y204=>some y204
def r01_Digits (a0 : Int) : Option (List UInt8):=loopN (fun rc (x : Int)=>r01_Digits_R rc x) FUEL a0
theorem r01_Digits_ih : ∀ (d : Nat) {a0 : Int} {r : (List UInt8)} (hF : loopN (fun rc (x : Int)=>r01_Digits_R rc x) d a0=some r),EvCall Tryz.prog T G0 116 [.int .i64 a0] [] (fun v H'=>v=.str r∧H'=[]):=by
  intro d
  induction d with
  | zero=>intro _ _ hF; cases hF
  | succ d ih =>
    intro a0 r hF
    have hF:=loop_in hF
    refine xc Tryz.func116 ?_
    refine xq (wh 1 (we (ng (xs (xq (wh 2 (we (ng ?_))))))))
    refine ite_elim hF (fun hc1 hF=>?_) (fun hc1 hF=>?_)
    ·refine kT 4 hc1 (xT (xq (wh 3 (w_frz (v:=sl (cI .u8) (⟨false,true,[IntKind.wrap .u8 (iAdd .i64 48 a0)]⟩ : Sl Int)) (by kernel_rfl) (w_str (l:=(⟨false,true,[IntKind.wrap .u8 (iAdd .i64 48 a0)]⟩ : Sl Int).l) (by kernel_rfl) (wh 6 (we (ng (xt (then_r ?_))))))))))
     cases hF
     exact fE [] (.inl rfl) rfl ⟨rfl,rfl⟩
    refine kF 4 hc1 (xF (xk (ng (xs (xd 0 call_ends callMono (wp 2 (bind_elim hF (fun y203 hy203 hF=>uC (ih hy203) (lows_cons rfl rfl) rfl (wp 7 (w_frz (v:=sl (cI .u8) (⟨false,true,[IntKind.wrap .u8 (iAdd .i64 48 (iRem a0 10))]⟩ : Sl Int)) (by kernel_rfl) (w_str (l:=(⟨false,true,[IntKind.wrap .u8 (iAdd .i64 48 (iRem a0 10))]⟩ : Sl Int).l) (by kernel_rfl) (bind_elim hF (fun y204 hy204 hF=>w_cat (by kernel_rfl) hy204 (wp 11 (we (de (ng (xt ?_))))))))))))))))))
    cases hF
    exact fE [] (.inl rfl) rfl ⟨rfl,rfl⟩
theorem r01_Digits_ev {a0 : Int} {r : (List UInt8)} (hF : r01_Digits a0=some r) : EvCall Tryz.prog T G0 116 [.int .i64 a0] [] (fun v H'=>v=.str r∧H'=[]):=r01_Digits_ih FUEL hF
def r01_Number (a0 : Int) : Option (List UInt8) :=
  if iGe a0 0=true then (r01_Digits a0).bind fun y203=>(catS y203 [59]).bind fun y204=>some y204 else if (iQuo .i64 a0 10==0)=true then (r01_Digits (iNeg .i64 a0)).bind fun y208=>(catS [45] y208).bind fun y209=>(catS y209 [59]).bind fun y210=>some y210 else (r01_Digits (iNeg .i64 (iQuo .i64 a0 10))).bind fun y211=>(catS [45] y211).bind fun y212=>(r01_Digits (iNeg .i64 (iRem a0 10))).bind fun y213=>(catS y212 y213).bind fun y214=>(catS y214 [59]).bind fun y215=>some y215
theorem r01_Number_ev {a0 : Int} {r : (List UInt8)} (hF : r01_Number a0=some r) : EvCall Tryz.prog T G0 72 [.int .i64 a0] [] (fun v H'=>v=.str r∧H'=[]):=by
 refine xc Tryz.func72 ?_
 refine xq (wh 1 (we (ng (xs (xq (wh 2 (we (ng ?_))))))))
 refine ite_elim hF (fun hc1 hF=>?_) (fun hc1 hF=>?_)
 ·refine kT 4 hc1 (xT (xq (wh 1 (bind_elim hF (fun y203 hy203 hF=>uC (r01_Digits_ev hy203) (lows_cons rfl rfl) rfl (bind_elim hF (fun y204 hy204 hF=>w_cat (by kernel_rfl) hy204 (wh 4 (we (ng (xt (then_r ?_))))))))))))
  cases hF
  exact fE [] (.inl rfl) rfl ⟨rfl,rfl⟩
 refine kF 4 hc1 (xF (xk (ng (xs (xq (wh 3 (we (ng ?_))))))))
 refine ite_elim hF (fun hc2 hF=>?_) (fun hc2 hF=>?_)
 ·refine kT 10 hc2 (xT (xq (wh 2 (bind_elim hF (fun y208 hy208 hF=>uC (r01_Digits_ev hy208) (lows_cons rfl rfl) rfl (bind_elim hF (fun y209 hy209 hF=>w_cat (by kernel_rfl) hy209 (bind_elim hF (fun y210 hy210 hF=>w_cat (by kernel_rfl) hy210 (wh 6 (we (ng (xt (then_r ?_))))))))))))))
  cases hF
  exact fE [] (.inl rfl) rfl ⟨rfl,rfl⟩
 refine kF 10 hc2 (xF (xk (ng (xq (wh 3 (bind_elim hF (fun y211 hy211 hF=>uC (r01_Digits_ev hy211) (lows_cons rfl rfl) rfl (bind_elim hF (fun y212 hy212 hF=>w_cat (by kernel_rfl) hy212 (wh 8 (bind_elim hF (fun y213 hy213 hF=>uC (r01_Digits_ev hy213) (lows_cons rfl rfl) rfl (bind_elim hF (fun y214 hy214 hF=>w_cat (by kernel_rfl) hy214 (bind_elim hF (fun y215 hy215 hF=>w_cat (by kernel_rfl) hy215 (wh 12 (we (ng (xt ?_))))))))))))))))))))
 cases hF
 exact fE [] (.inl rfl) rfl ⟨rfl,rfl⟩
def r10_Ints_J1 (p225 : List UInt8) : Option (List UInt8) :=
  some p225
def r10_Ints_B244 (a0 : Sl Int) (k244 : ((List UInt8)×Int)→Option (List UInt8)) (x244 : (List UInt8)×Int) : Option (List UInt8) :=
  if iLt x244.2 (a0.l.length : Int)=true then (idxL a0.l x244.2).bind fun y248=>(r01_Number y248).bind fun y249=>(catS x244.1 y249).bind fun y250=>k244 (y250,iAdd .i64 x244.2 1) else r10_Ints_J1 x244.1
def r10_Ints (a0 : Sl Int) : Option (List UInt8) :=
  loopN (r10_Ints_B244 a0) FUEL ([],0)
theorem r10_Ints_ev {a0 : Sl Int} {r : (List UInt8)} (hF : r10_Ints a0=some r) : EvCall Tryz.prog T G0 28 [sl (cI .i64) a0] [] (fun v H'=>v=.str r∧H'=[]):=by
 refine xc Tryz.func28 ?_
 refine xq (wh 1 (we (ng (xq (wh 1 (we (ng ?_)))))))
 refine xj (fun fr H=>∃ (p225 : List UInt8),fr=[.any,.any,.any,.str p225,.any,.any,.any,.any,.bool false,.any,.any,.any,.any,.any,.any,.any,.any,.any,.any]∧H=[]∧r10_Ints_J1 p225=some r) (fun fr H ⟨p225,e1,e2,hF⟩=>?_) (fun hJ1=>?_)
 ·subst e1 e2
  refine xq (wh 2 (we (ng (xt ?_))))
  cases hF
  exact fE [] (.inl rfl) rfl ⟨rfl,rfl⟩
 refine xq (wh 1 (we (ng (xb (x_loop (fun d fr H=>∃ (x244 : (List UInt8)×Int) (g234 : Option Bool),fr=[sl (cI .i64) a0,.any,.any,.str x244.1,.int .i64 x244.2,.any,.any,.any,junkB g234,.any,.any,.any,.any,.any,.any,.any,.any,.any,.any]∧H=[]∧loopN (r10_Ints_B244 a0) d x244=some r) (by kernel_rfl) (fun fr H ⟨x244,g234,e1,e2,hF⟩=>loop_no hF) (fun d244 fr H ⟨x244,g234,e1,e2,hF⟩=>?_) (VS.sm 524262) ⟨([],0),none,rfl,rfl,hF⟩)))))
 subst e1 e2
 have hF:=loop_in hF
 refine xs (xq (wh 4 (we (ng ?_))))
 refine ite_elim hF (fun hc1 hF=>?_) (fun hc1 hF=>?_)
 ·exact kT 8 hc1 (xT (xk (ng (xs (xb (xr (wh 3 (bind_elim hF (fun y248 hy248 hF=>uI (cI .i64) 1 hy248 (fun _=>rfl) (uE (cI .i64) 0 (t:=3) (v:=.int .i64 y248) 1 1 hy248 (fun _=>rfl) (bind_elim hF (fun y249 hy249 hF=>uC (r01_Number_ev hy249) (lows_cons rfl rfl) rfl (bind_elim hF (fun y250 hy250 hF=>w_cat (by kernel_rfl) hy250 (wh 8 (we (block_n (ng (xr (wh 3 (we (then_n (x_back (VS.sm 524262) ⟨(y250,iAdd .i64 x244.2 1),(some true),rfl,rfl,hF⟩)))))))))))))))))))))))
 exact kF 8 hc1 (xF (xe (then_e (then_e (block_e (then_n (x_to hJ1 (VS.sm 524023) ⟨x244.1,rfl,rfl,hF⟩)))))))
def r04_Ring_May_J1 (p252 : Bool) : Option Bool :=
  some p252
def r04_Ring_May (a0 : Affidavitref04_Line) (a1 : Affidavitref04_Ring) : Option Bool :=
  if iGe a0.Client 0=true then if iLt a0.Client a1.N=true then if iGe a0.Domain 1=true then if iLe a0.Domain 6=true then r04_Ring_May_J1 (iLe (a0.Text.length : Int) 16384) else r04_Ring_May_J1 false else r04_Ring_May_J1 false else r04_Ring_May_J1 false else r04_Ring_May_J1 false
theorem r04_Ring_May_ev {a0 : Affidavitref04_Line} {a1 : Affidavitref04_Ring} {r : Bool} (hF : r04_Ring_May a0 a1=some r) : EvCall Tryz.prog T G0 73 [.ptr 0 0,.agg (cAffidavitref04_Line a0)] [.cells (cAffidavitref04_Ring a1)] (fun v H'=>v=.bool r∧H'=[.cells (cAffidavitref04_Ring a1)]):=by
 refine xc Tryz.func73 ?_
 refine xq (wr 2 [.cells (cAffidavitref04_Ring a1),.cells (cAffidavitref04_Line a0)] (we (ng ?_)))
 refine xj (fun fr H=>∃ (p252 : Bool) (g253 : Option Bool) (g254 : Option Bool) (g255 : Option Bool) (g256 : Option Bool) (g257 : Option Bool) (g258 : Option Bool) (g259 : Option Bool) (g260 : Option Bool) (g261 : Option Bool) (g262 : Option Bool) (g263 : Option Bool) (g264 : Option Bool),fr=[.any,.any,.any,.any,.bool p252,.any,.any,.bool (iGe a0.Client 0),junkB g253,.any,.any,.any,.any,.any,.any,junkB g254,junkB g255,junkB g256,.any,.any,junkB g257,junkB g258,junkB g259,.any,.any,junkB g260,junkB g261,junkB g262,.any,.any,.any,junkB g263,junkB g264]∧H=[.cells (cAffidavitref04_Ring a1)]∧r04_Ring_May_J1 p252=some r) (fun fr H ⟨p252,g253,g254,g255,g256,g257,g258,g259,g260,g261,g262,g263,g264,e1,e2,hF⟩=>?_) (fun hJ1=>?_)
 ·subst e1 e2
  refine xt ?_
  cases hF
  exact fS [0] (.inl rfl) rfl (st (tights_lows (low_cAffidavitref04_Ring _)) rfl shh_nil) ⟨rfl,rfl⟩
 refine xd 0 call_ends callMono (wp 4 ?_)
 refine ite_elim hF (fun hc1 hF=>?_) (fun hc1 hF=>?_)
 ·refine wT 8 hc1 (wp 13 ?_)
  refine ite_elim hF (fun hc2 hF=>?_) (fun hc2 hF=>?_)
  ·refine wT 17 hc2 (wp 18 ?_)
   refine ite_elim hF (fun hc3 hF=>?_) (fun hc3 hF=>?_)
   ·refine wT 22 hc3 (wp 23 ?_)
    refine ite_elim hF (fun hc4 hF=>?_) (fun hc4 hF=>?_)
    ·exact wT 27 hc4 (wp 29 (we (de (then_n (x_to hJ1 (VS.si [0] 8589934447 (by kernel_rfl) (st (tights_lows (low_cAffidavitref04_Ring _)) rfl shh_nil)) ⟨iLe (a0.Text.length : Int) 16384,(some true),(some (iLt a0.Client a1.N)),(some (iLt a0.Client a1.N)),(some true),(some (iGe a0.Domain 1)),(some (iGe a0.Domain 1)),(some true),(some (iLe a0.Domain 6)),(some (iLe a0.Domain 6)),(some true),(some (iLe (a0.Text.length : Int) 16384)),(some (iLe (a0.Text.length : Int) 16384)),rfl,rfl,hF⟩)))))
    exact wF 27 hc4 (wp 29 (we (de (then_n (x_to hJ1 (VS.si [0] 8589934447 (by kernel_rfl) (st (tights_lows (low_cAffidavitref04_Ring _)) rfl shh_nil)) ⟨false,(some true),(some (iLt a0.Client a1.N)),(some (iLt a0.Client a1.N)),(some true),(some (iGe a0.Domain 1)),(some (iGe a0.Domain 1)),(some true),(some (iLe a0.Domain 6)),(some (iLe a0.Domain 6)),(some false),none,(some false),rfl,rfl,hF⟩)))))
   exact wF 22 hc3 (wp 29 (we (de (then_n (x_to hJ1 (VS.si [0] 8589934447 (by kernel_rfl) (st (tights_lows (low_cAffidavitref04_Ring _)) rfl shh_nil)) ⟨false,(some true),(some (iLt a0.Client a1.N)),(some (iLt a0.Client a1.N)),(some true),(some (iGe a0.Domain 1)),(some (iGe a0.Domain 1)),(some false),none,(some false),(some false),none,(some false),rfl,rfl,hF⟩)))))
  exact wF 17 hc2 (wp 29 (we (de (then_n (x_to hJ1 (VS.si [0] 8589934447 (by kernel_rfl) (st (tights_lows (low_cAffidavitref04_Ring _)) rfl shh_nil)) ⟨false,(some true),(some (iLt a0.Client a1.N)),(some (iLt a0.Client a1.N)),(some false),none,(some false),(some false),none,(some false),(some false),none,(some false),rfl,rfl,hF⟩)))))
 exact wF 8 hc1 (wp 29 (we (de (then_n (x_to hJ1 (VS.si [0] 8589934447 (by kernel_rfl) (st (tights_lows (low_cAffidavitref04_Ring _)) rfl shh_nil)) ⟨false,(some false),none,(some false),(some false),none,(some false),(some false),none,(some false),(some false),none,(some false),rfl,rfl,hF⟩)))))
def r01_Text (a0 : List UInt8) : Option ((List UInt8)×Int) :=
  if iGt (a0.length : Int) 16384=true then some ([],4) else (r01_Digits (a0.length : Int)).bind fun y266=>(catS y266 [58]).bind fun y267=>(catS y267 a0).bind fun y268=>some (y268,0)
theorem r01_Text_ev {a0 : List UInt8} {r : (List UInt8)×Int} (hF : r01_Text a0=some r) : EvCall Tryz.prog T G0 141 [.str a0] [] (fun v H'=>v=.tup [.str r.1,.int .i64 r.2]∧H'=[]):=by
 refine xc Tryz.func141 ?_
 refine xq (wh 2 (we (ng (xs (xq (wh 3 (we (ng ?_))))))))
 refine ite_elim hF (fun hc1 hF=>?_) (fun hc1 hF=>?_)
 ·refine kT 6 hc1 (xT (xq (wh 2 (we (ng (xt (then_r ?_)))))))
  cases hF
  exact fE [] (.inl rfl) (low_tup (lows_cons rfl (lows_cons rfl rfl))) ⟨rfl,rfl⟩
 refine kF 6 hc1 (xF (xk (ng (xq (wh 2 (bind_elim hF (fun y266 hy266 hF=>uC (r01_Digits_ev hy266) (lows_cons rfl rfl) rfl (bind_elim hF (fun y267 hy267 hF=>w_cat (by kernel_rfl) hy267 (wh 5 (bind_elim hF (fun y268 hy268 hF=>w_cat (by kernel_rfl) hy268 (wh 8 (we (ng (xt ?_))))))))))))))))
 cases hF
 exact fE [] (.inl rfl) (low_tup (lows_cons rfl (lows_cons rfl rfl))) ⟨rfl,rfl⟩
def r02_rounds  : Option (Sl Int) :=
  some (⟨false,true,[1116352408,1899447441,3049323471,3921009573,961987163,1508970993,2453635748,2870763221,3624381080,310598401,607225278,1426881987,1925078388,2162078206,2614888103,3248222580,3835390401,4022224774,264347078,604807628,770255983,1249150122,1555081692,1996064986,2554220882,2821834349,2952996808,3210313671,3336571891,3584528711,113926993,338241895,666307205,773529912,1294757372,1396182291,1695183700,1986661051,2177026350,2456956037,2730485921,2820302411,3259730800,3345764771,3516065817,3600352804,4094571909,275423344,430227734,506948616,659060556,883997877,958139571,1322822218,1537002063,1747873779,1955562222,2024104815,2227730452,2361852424,2428436474,2756734187,3204031479,3329325298]⟩ : Sl Int)
theorem r02_rounds_ev {r : (Sl Int)} (hF : r02_rounds=some r) : EvCall Tryz.prog T G0 150 [] [] (fun v H'=>v=sl (cI .u32) r∧H'=[]):=by
 refine xc Tryz.func150 ?_
 refine xq (wh 1 (we (ng (xq (w_frz (v:=sl (cI .u32) (⟨false,true,[1116352408,1899447441,3049323471,3921009573,961987163,1508970993,2453635748,2870763221,3624381080,310598401,607225278,1426881987,1925078388,2162078206,2614888103,3248222580,3835390401,4022224774,264347078,604807628,770255983,1249150122,1555081692,1996064986,2554220882,2821834349,2952996808,3210313671,3336571891,3584528711,113926993,338241895,666307205,773529912,1294757372,1396182291,1695183700,1986661051,2177026350,2456956037,2730485921,2820302411,3259730800,3345764771,3516065817,3600352804,4094571909,275423344,430227734,506948616,659060556,883997877,958139571,1322822218,1537002063,1747873779,1955562222,2024104815,2227730452,2361852424,2428436474,2756734187,3204031479,3329325298]⟩ : Sl Int)) (by kernel_rfl) (wh 2 (we (ng (xt ?_)))))))))
 cases hF
 exact fE [] (.inl rfl) (low_sl low_cI) ⟨rfl,rfl⟩
def r02_word (a0 : Sl Int) (a1 : Int) : Option Int :=
  (idxL a0.l a1).bind fun y318=>(idxL a0.l (iAdd .i64 a1 1)).bind fun y319=>(idxL a0.l (iAdd .i64 a1 2)).bind fun y320=>(idxL a0.l (iAdd .i64 a1 3)).bind fun y321=>some (iAdd .u32 (iAdd .u32 (iAdd .u32 (iMul .u32 (IntKind.wrap .u32 y318) 16777216) (iMul .u32 (IntKind.wrap .u32 y319) 65536)) (iMul .u32 (IntKind.wrap .u32 y320) 256)) (IntKind.wrap .u32 y321))
theorem r02_word_ev {a0 : Sl Int} {a1 : Int} {r : Int} (hF : r02_word a0 a1=some r) : EvCall Tryz.prog T G0 162 [sl (cI .u8) a0,.int .i64 a1] [] (fun v H'=>v=.int .u32 r∧H'=[]):=by
 refine xc Tryz.func162 ?_
 refine xq (wh 1 (we (ng (xs (xd 0 call_ends callMono (wp 2 (bind_elim hF (fun y318 hy318 hF=>uI (cI .u8) 1 hy318 (fun _=>rfl) (uE (cI .u8) 0 (t:=5) (v:=.int .u8 y318) 1 1 hy318 (fun _=>rfl) (wp 9 (bind_elim hF (fun y319 hy319 hF=>uI (cI .u8) 1 hy319 (fun _=>rfl) (uE (cI .u8) 0 (t:=5) (v:=.int .u8 y319) 1 1 hy319 (fun _=>rfl) (wp 17 (bind_elim hF (fun y320 hy320 hF=>uI (cI .u8) 1 hy320 (fun _=>rfl) (uE (cI .u8) 0 (t:=5) (v:=.int .u8 y320) 1 1 hy320 (fun _=>rfl) (wp 25 (bind_elim hF (fun y321 hy321 hF=>uI (cI .u8) 1 hy321 (fun _=>rfl) (uE (cI .u8) 0 (t:=5) (v:=.int .u8 y321) 1 1 hy321 (fun _=>rfl) (wp 30 (we (de (ng (xt ?_))))))))))))))))))))))))))
 cases hF
 exact fE [] (.inl rfl) rfl ⟨rfl,rfl⟩
def r02_turn (a0 : Int) (a1 : Int) : Option Int :=
  (shrI .u32 a0 a1).bind fun y344=>(shlI .u32 a0 (iSub .u32 32 a1)).bind fun y345=>some (iOr .u32 y344 y345)
theorem r02_turn_ev {a0 : Int} {a1 : Int} {r : Int} (hF : r02_turn a0 a1=some r) : EvCall Tryz.prog T G0 163 [.int .u32 a0,.int .u32 a1] [] (fun v H'=>v=.int .u32 r∧H'=[]):=by
 refine xc Tryz.func163 ?_
 refine xq (wh 1 (we (ng (xq (wh 2 (bind_elim hF (fun y344 hy344 hF=>w_shr (by kernel_rfl) hy344 (wh 6 (bind_elim hF (fun y345 hy345 hF=>w_shl (by kernel_rfl) hy345 (wh 9 (we (ng (xt ?_))))))))))))))
 cases hF
 exact fE [] (.inl rfl) rfl ⟨rfl,rfl⟩
def r02_block_J3 (a0 : Sl Int) (p521 : Int) (p522 : Int) (p523 : Int) (p524 : Int) (p525 : Int) (p526 : Int) (p527 : Int) (p528 : Int) : Option (Sl Int) :=
  (idxL a0.l 0).bind fun y537=>(idxL a0.l 1).bind fun y538=>(idxL a0.l 2).bind fun y539=>(idxL a0.l 3).bind fun y540=>(idxL a0.l 4).bind fun y541=>(idxL a0.l 5).bind fun y542=>(idxL a0.l 6).bind fun y543=>(idxL a0.l 7).bind fun y544=>some (⟨false,true,[iAdd .u32 y537 p521,iAdd .u32 y538 p522,iAdd .u32 y539 p523,iAdd .u32 y540 p524,iAdd .u32 y541 p525,iAdd .u32 y542 p526,iAdd .u32 y543 p527,iAdd .u32 y544 p528]⟩ : Sl Int)
def r02_block_B605 (a0 : Sl Int) (a2 : Sl Int) (p431 : Sl Int) (k605 : (Int×Int×Int×Int×Int×Int×Int×Int×Int)→Option (Sl Int)) (x605 : Int×Int×Int×Int×Int×Int×Int×Int×Int) : Option (Sl Int) :=
  if iLt x605.2.2.2.2.2.2.2.2 64=true then (r02_turn x605.2.2.2.2.1 6).bind fun y616=>(r02_turn x605.2.2.2.2.1 11).bind fun y617=>(r02_turn x605.2.2.2.2.1 25).bind fun y618=>(idxL a2.l x605.2.2.2.2.2.2.2.2).bind fun y621=>(idxR 0 ((64 : Int).toNat) p431.l x605.2.2.2.2.2.2.2.2).bind fun y622=>(r02_turn x605.1 2).bind fun y623=>(r02_turn x605.1 13).bind fun y624=>(r02_turn x605.1 22).bind fun y625=>k605 (iAdd .u32 (iAdd .u32 (iAdd .u32 (iAdd .u32 (iAdd .u32 (iAdd .u32 x605.2.2.2.2.2.2.2.1 (iXor .u32 (iXor .u32 y616 y617) y618)) (iXor .u32 (iAnd .u32 x605.2.2.2.2.1 x605.2.2.2.2.2.1) (iAnd .u32 (iSub .u32 4294967295 x605.2.2.2.2.1) x605.2.2.2.2.2.2.1))) y621) y622) (iXor .u32 (iXor .u32 y623 y624) y625)) (iXor .u32 (iXor .u32 (iAnd .u32 x605.1 x605.2.1) (iAnd .u32 x605.1 x605.2.2.1)) (iAnd .u32 x605.2.1 x605.2.2.1)),x605.1,x605.2.1,x605.2.2.1,iAdd .u32 x605.2.2.2.1 (iAdd .u32 (iAdd .u32 (iAdd .u32 (iAdd .u32 x605.2.2.2.2.2.2.2.1 (iXor .u32 (iXor .u32 y616 y617) y618)) (iXor .u32 (iAnd .u32 x605.2.2.2.2.1 x605.2.2.2.2.2.1) (iAnd .u32 (iSub .u32 4294967295 x605.2.2.2.2.1) x605.2.2.2.2.2.2.1))) y621) y622),x605.2.2.2.2.1,x605.2.2.2.2.2.1,x605.2.2.2.2.2.2.1,iAdd .i64 x605.2.2.2.2.2.2.2.2 1) else r02_block_J3 a0 x605.1 x605.2.1 x605.2.2.1 x605.2.2.2.1 x605.2.2.2.2.1 x605.2.2.2.2.2.1 x605.2.2.2.2.2.2.1 x605.2.2.2.2.2.2.2.1
def r02_block_J2 (a0 : Sl Int) (a2 : Sl Int) (p431 : Sl Int) : Option (Sl Int) :=
  (idxL a0.l 0).bind fun y432=>(idxL a0.l 1).bind fun y433=>(idxL a0.l 2).bind fun y434=>(idxL a0.l 3).bind fun y435=>(idxL a0.l 4).bind fun y436=>(idxL a0.l 5).bind fun y437=>(idxL a0.l 6).bind fun y438=>(idxL a0.l 7).bind fun y439=>loopN (r02_block_B605 a0 a2 p431) FUEL (y432,y433,y434,y435,y436,y437,y438,y439,0)
def r02_block_B692 (a0 : Sl Int) (a2 : Sl Int) (k692 : ((Sl Int)×Int)→Option (Sl Int)) (x692 : (Sl Int)×Int) : Option (Sl Int) :=
  if iLt x692.2 64=true then (idxR 0 ((64 : Int).toNat) x692.1.l (iSub .i64 x692.2 15)).bind fun y708=>(idxR 0 ((64 : Int).toNat) x692.1.l (iSub .i64 x692.2 2)).bind fun y709=>(r02_turn y708 7).bind fun y710=>(r02_turn y708 18).bind fun y711=>(r02_turn y709 17).bind fun y712=>(r02_turn y709 19).bind fun y713=>(idxR 0 ((64 : Int).toNat) x692.1.l (iSub .i64 x692.2 7)).bind fun y720=>(idxR 0 ((64 : Int).toNat) x692.1.l (iSub .i64 x692.2 16)).bind fun y721=>(idxR 0 ((64 : Int).toNat) x692.1.l x692.2).bind fun y722=>k692 (x692.1.put (0+x692.2.toNat) (iAdd .u32 (iAdd .u32 (iAdd .u32 (iXor .u32 (iXor .u32 y712 y713) (iQuo .u32 y709 1024)) y720) (iXor .u32 (iXor .u32 y710 y711) (iQuo .u32 y708 8))) y721),iAdd .i64 x692.2 1) else r02_block_J2 a0 a2 x692.1
def r02_block_J1 (a0 : Sl Int) (a2 : Sl Int) (p333 : Sl Int) : Option (Sl Int) :=
  loopN (r02_block_B692 a0 a2) FUEL (p333,16)
def r02_block_B737 (a0 : Sl Int) (a1 : Sl Int) (a2 : Sl Int) (k737 : ((Sl Int)×Int)→Option (Sl Int)) (x737 : (Sl Int)×Int) : Option (Sl Int) :=
  if iLt x737.2 16=true then (r02_word a1 (iMul .i64 4 x737.2)).bind fun y740=>(idxR 0 ((64 : Int).toNat) x737.1.l x737.2).bind fun y741=>k737 (x737.1.put (0+x737.2.toNat) y740,iAdd .i64 x737.2 1) else r02_block_J1 a0 a2 x737.1
def r02_block (a0 : Sl Int) (a1 : Sl Int) (a2 : Sl Int) : Option (Sl Int) :=
  (mkL 4 (0 : Int) 64 64).bind fun y313=>loopN (r02_block_B737 a0 a1 a2) FUEL (y313,0)
theorem r02_block_ev {a0 : Sl Int} {a1 : Sl Int} {a2 : Sl Int} {r : (Sl Int)} (hF : r02_block a0 a1 a2=some r) : EvCall Tryz.prog T G0 151 [sl (cI .u32) a0,sl (cI .u8) a1,sl (cI .u32) a2] [] (fun v H'=>v=sl (cI .u32) r∧H'=[]):=by
 refine xc Tryz.func151 ?_
 refine xq (wh 1 (we (ng (xq (bind_elim hF (fun y313 hy313 hF=>w_mkrs (cI .u32) (e:=210) (sz:=1) (bytes:=4) hy313 (fun e312=>(wr 2 [rfb (cI .u32) y313] (we (ng ?_))))))))))
 refine xj (fun fr H=>∃ (p333 : Sl Int),fr=[sl (cI .u32) a0,.any,sl (cI .u32) a2,.any,.any,.any,.any,.ref e312 false 0 (0 * 1) ((64 : Int).toNat) 1,.any,.any,.any,.any,.any,.any,.any,.any,.any,.any,.any,.any,.any,.any,.any,.any,.any,.any,.any,.any,.any,.any,.bool false,.any,.any,.any,.any,.any,.any,.any,.any,.any,.any,.any,.any,.any,.any,.any,.any,.any,.any,.any,.any,.any,.any,.any,.any,.any,.any,.any,.any,.any,.any,.any,.any,.any,.any,.any,.any,.any,.any,.any,.any,.any,.any,.any,.any,.any,.any,.any,.any,.any,.any,.any,.any,.any,.any,.any,.any,.any,.any,.any,.any,.any,.any,.any,.any,.any,.any,.any,.any,.any,.any,.any,.any,.any,.any,.any,.any,.any,.any,.any,.any,.any,.any,.any,.any,.any,.any,.any,.any,.any,.any,.any,.any,.any,.any,.any,.any,.any,.any,.any,.any,.any,.any,.any,.any,.any,.any,.any,.any,.any,.any,.any,.any,.any,.any,.any,.any,.any,.any,.any,.any,.any,.any,.any,.any,.any,.any,.any,.any,.any,.any,.any,.any,.any,.any,.any,.any,.any,.any,.any,.any,.any,.any,.any,.any,.any,.any,.any,.any,.any,.any,.any,.any,.any,.any,.any,.any,.any,.any,.any,.any,.any,.any,.any,.any,.any,.any,.any,.any,.any,.any,.any,.any,.any,.any,.any,.any,.any,.any,.any,.any,.any,.any,.any,.any,.any,.any,.any,.any,.any,.any]∧H=[rfb (cI .u32) p333]∧r02_block_J1 a0 a2 p333=some r) (fun fr H ⟨p333,e1,e2,hF⟩=>?_) (fun hJ1=>?_)
 ·subst e1 e2
  refine xj (fun fr H=>∃ (p431 : Sl Int),fr=[sl (cI .u32) a0,.any,sl (cI .u32) a2,.any,.any,.any,.any,.ref e312 false 0 (0 * 1) ((64 : Int).toNat) 1,.any,.any,.any,.any,.any,.any,.any,.any,.any,.any,.any,.any,.any,.any,.any,.any,.any,.any,.any,.any,.any,.any,.bool false,.any,.any,.any,.any,.any,.any,.any,.any,.any,.any,.bool false,.any,.any,.any,.any,.any,.any,.any,.any,.any,.any,.any,.any,.any,.any,.any,.any,.any,.any,.any,.any,.any,.any,.any,.any,.any,.any,.any,.any,.any,.any,.any,.any,.any,.any,.any,.any,.any,.any,.any,.any,.any,.any,.any,.any,.any,.any,.any,.any,.any,.any,.any,.any,.any,.any,.any,.any,.any,.any,.any,.any,.any,.any,.any,.any,.any,.any,.any,.any,.any,.any,.any,.any,.any,.any,.any,.any,.any,.any,.any,.any,.any,.any,.any,.any,.any,.any,.any,.any,.any,.any,.any,.any,.any,.any,.any,.any,.any,.any,.any,.any,.any,.any,.any,.any,.any,.any,.any,.any,.any,.any,.any,.any,.any,.any,.any,.any,.any,.any,.any,.any,.any,.any,.any,.any,.any,.any,.any,.any,.any,.any,.any,.any,.any,.any,.any,.any,.any,.any,.any,.any,.any,.any,.any,.any,.any,.any,.any,.any,.any,.any,.any,.any,.any,.any,.any,.any,.any,.any,.any,.any,.any,.any,.any,.any,.any,.any,.any,.any,.any,.any,.any,.any,.any,.any,.any,.any,.any,.any,.any]∧H=[rfb (cI .u32) p431]∧r02_block_J2 a0 a2 p431=some r) (fun fr H ⟨p431,e1,e2,hF⟩=>?_) (fun hJ2=>?_)
  ·subst e1 e2
   refine xq (wh 1 (bind_elim hF (fun y432 hy432 hF=>uI (cI .u32) 1 hy432 (fun _=>rfl) (uE (cI .u32) 0 (t:=210) (v:=.int .u32 y432) 1 1 hy432 (fun _=>rfl) (wh 4 (we (ng (xq (wh 1 (bind_elim hF (fun y433 hy433 hF=>uI (cI .u32) 1 hy433 (fun _=>rfl) (uE (cI .u32) 0 (t:=210) (v:=.int .u32 y433) 1 1 hy433 (fun _=>rfl) (wh 4 (we (ng (xq (wh 1 (bind_elim hF (fun y434 hy434 hF=>uI (cI .u32) 1 hy434 (fun _=>rfl) (uE (cI .u32) 0 (t:=210) (v:=.int .u32 y434) 1 1 hy434 (fun _=>rfl) (wh 4 (we (ng (xq (wh 1 (bind_elim hF (fun y435 hy435 hF=>uI (cI .u32) 1 hy435 (fun _=>rfl) (uE (cI .u32) 0 (t:=210) (v:=.int .u32 y435) 1 1 hy435 (fun _=>rfl) (wh 4 (we (ng (xq (wh 1 ?_)))))))))))))))))))))))))))))))))
   refine bind_elim hF (fun y436 hy436 hF=>uI (cI .u32) 1 hy436 (fun _=>rfl) (uE (cI .u32) 0 (t:=210) (v:=.int .u32 y436) 1 1 hy436 (fun _=>rfl) (wh 4 (we (ng (xq (wh 1 (bind_elim hF (fun y437 hy437 hF=>uI (cI .u32) 1 hy437 (fun _=>rfl) (uE (cI .u32) 0 (t:=210) (v:=.int .u32 y437) 1 1 hy437 (fun _=>rfl) (wh 4 (we (ng (xq (wh 1 (bind_elim hF (fun y438 hy438 hF=>uI (cI .u32) 1 hy438 (fun _=>rfl) (uE (cI .u32) 0 (t:=210) (v:=.int .u32 y438) 1 1 hy438 (fun _=>rfl) (wh 4 (we (ng (xq (wh 1 (bind_elim hF (fun y439 hy439 hF=>uI (cI .u32) 1 hy439 (fun _=>rfl) (uE (cI .u32) 0 (t:=210) (v:=.int .u32 y439) 1 1 hy439 (fun _=>rfl) (wh 4 (we (ng ?_)))))))))))))))))))))))))))))
   refine xj (fun fr H=>∃ (p521 : Int) (p522 : Int) (p523 : Int) (p524 : Int) (p525 : Int) (p526 : Int) (p527 : Int) (p528 : Int),fr=[sl (cI .u32) a0,.any,.any,.any,.any,.any,.any,.any,.any,.any,.any,.any,.any,.any,.int .u32 p521,.int .u32 p522,.int .u32 p523,.int .u32 p524,.int .u32 p525,.int .u32 p526,.int .u32 p527,.int .u32 p528,.any,.any,.any,.any,.any,.any,.any,.any,.bool false,.any,.any,.any,.any,.any,.any,.any,.any,.any,.any,.bool false,.any,.any,.any,.any,.any,.any,.any,.any,.any,.any,.any,.any,.any,.any,.any,.any,.any,.any,.any,.any,.any,.any,.any,.any,.any,.any,.any,.any,.any,.any,.any,.any,.any,.any,.any,.any,.any,.any,.any,.any,.any,.any,.any,.any,.any,.any,.any,.any,.any,.any,.any,.any,.any,.any,.any,.any,.any,.any,.any,.any,.any,.any,.any,.any,.any,.any,.any,.any,.any,.any,.any,.bool false,.any,.any,.any,.any,.any,.any,.any,.any,.any,.any,.any,.any,.any,.any,.any,.any,.any,.any,.any,.any,.any,.any,.any,.any,.any,.any,.any,.any,.any,.any,.any,.any,.any,.any,.any,.any,.any,.any,.any,.any,.any,.any,.any,.any,.any,.any,.any,.any,.any,.any,.any,.any,.any,.any,.any,.any,.any,.any,.any,.any,.any,.any,.any,.any,.any,.any,.any,.any,.any,.any,.any,.any,.any,.any,.any,.any,.any,.any,.any,.any,.any,.any,.any,.any,.any,.any,.any,.any,.any,.any,.any,.any,.any,.any,.any,.any,.any,.any,.any,.any,.any,.any,.any,.any,.any,.any,.any]∧H=[]∧r02_block_J3 a0 p521 p522 p523 p524 p525 p526 p527 p528=some r) (fun fr H ⟨p521,p522,p523,p524,p525,p526,p527,p528,e1,e2,hF⟩=>?_) (fun hJ3=>?_)
   ·subst e1 e2
    refine xs (xd 0 call_ends callMono (wp 1 (bind_elim hF (fun y537 hy537 hF=>uI (cI .u32) 1 hy537 (fun _=>rfl) (uE (cI .u32) 0 (t:=210) (v:=.int .u32 y537) 1 1 hy537 (fun _=>rfl) (wp 6 (bind_elim hF (fun y538 hy538 hF=>uI (cI .u32) 1 hy538 (fun _=>rfl) (uE (cI .u32) 0 (t:=210) (v:=.int .u32 y538) 1 1 hy538 (fun _=>rfl) (wp 11 (bind_elim hF (fun y539 hy539 hF=>uI (cI .u32) 1 hy539 (fun _=>rfl) (uE (cI .u32) 0 (t:=210) (v:=.int .u32 y539) 1 1 hy539 (fun _=>rfl) (wp 16 (bind_elim hF (fun y540 hy540 hF=>uI (cI .u32) 1 hy540 (fun _=>rfl) (uE (cI .u32) 0 (t:=210) (v:=.int .u32 y540) 1 1 hy540 (fun _=>rfl) (wp 21 (bind_elim hF (fun y541 hy541 hF=>uI (cI .u32) 1 hy541 (fun _=>rfl) (uE (cI .u32) 0 (t:=210) (v:=.int .u32 y541) 1 1 hy541 (fun _=>rfl) (wp 26 (bind_elim hF (fun y542 hy542 hF=>uI (cI .u32) 1 hy542 (fun _=>rfl) (uE (cI .u32) 0 (t:=210) (v:=.int .u32 y542) 1 1 hy542 (fun _=>rfl) (wp 31 (bind_elim hF (fun y543 hy543 hF=>uI (cI .u32) 1 hy543 (fun _=>rfl) (uE (cI .u32) 0 (t:=210) (v:=.int .u32 y543) 1 1 hy543 (fun _=>rfl) (wp 36 (bind_elim hF (fun y544 hy544 hF=>uI (cI .u32) 1 hy544 (fun _=>rfl) (uE (cI .u32) 0 (t:=210) (v:=.int .u32 y544) 1 1 hy544 (fun _=>rfl) (wp 40 (w_frz (v:=sl (cI .u32) (⟨false,true,[iAdd .u32 y537 p521,iAdd .u32 y538 p522,iAdd .u32 y539 p523,iAdd .u32 y540 p524,iAdd .u32 y541 p525,iAdd .u32 y542 p526,iAdd .u32 y543 p527,iAdd .u32 y544 p528]⟩ : Sl Int)) (by kernel_rfl) (wp 42 (we ?_)))))))))))))))))))))))))))))))))))))
    refine de (ng (xt ?_))
    cases hF
    exact fE [] (.inl rfl) (low_sl low_cI) ⟨rfl,rfl⟩
   refine xq (wh 1 (we (ng (xb (x_loop (fun d fr H=>∃ (x605 : Int×Int×Int×Int×Int×Int×Int×Int×Int) (g574 : Option Bool),fr=[sl (cI .u32) a0,.any,sl (cI .u32) a2,.any,.any,.any,.any,.ref e312 false 0 (0 * 1) ((64 : Int).toNat) 1,.any,.any,.any,.any,.any,.any,.int .u32 x605.1,.int .u32 x605.2.1,.int .u32 x605.2.2.1,.int .u32 x605.2.2.2.1,.int .u32 x605.2.2.2.2.1,.int .u32 x605.2.2.2.2.2.1,.int .u32 x605.2.2.2.2.2.2.1,.int .u32 x605.2.2.2.2.2.2.2.1,.int .i64 x605.2.2.2.2.2.2.2.2,.any,.any,.any,.any,.any,.any,.any,.bool false,.any,.any,.any,.any,.any,.any,.any,.any,.any,.any,.bool false,.any,.any,.any,.any,.any,.any,.any,.any,.any,.any,.any,.any,.any,.any,.any,.any,.any,.any,.any,.any,.any,.any,.any,.any,.any,.any,.any,.any,.any,.any,.any,.any,.any,.any,.any,.any,.any,.any,.any,.any,.any,.any,.any,.any,.any,.any,.any,.any,.any,.any,.any,.any,.any,.any,.any,.any,.any,.any,.any,.any,.any,.any,.any,.any,.any,.any,.any,.any,.any,.any,.any,junkB g574,.any,.any,.any,.any,.any,.any,.any,.any,.any,.any,.any,.any,.any,.any,.any,.any,.any,.any,.any,.any,.any,.any,.any,.any,.any,.any,.any,.any,.any,.any,.any,.any,.any,.any,.any,.any,.any,.any,.any,.any,.any,.any,.any,.any,.any,.any,.any,.any,.any,.any,.any,.any,.any,.any,.any,.any,.any,.any,.any,.any,.any,.any,.any,.any,.any,.any,.any,.any,.any,.any,.any,.any,.any,.any,.any,.any,.any,.any,.any,.any,.any,.any,.any,.any,.any,.any,.any,.any,.any,.any,.any,.any,.any,.any,.any,.any,.any,.any,.any,.any,.any,.any,.any,.any,.any,.any,.any]∧H=[rfb (cI .u32) p431]∧loopN (r02_block_B605 a0 a2 p431) d x605=some r) (by kernel_rfl) (fun fr H ⟨x605,g574,e1,e2,hF⟩=>loop_no hF) (fun d605 fr H ⟨x605,g574,e1,e2,hF⟩=>?_) (VS.sm 3369993333393829974333376885877453834204643052817571557937845911418) ⟨(y432,y433,y434,y435,y436,y437,y438,y439,0),none,rfl,rfl,hF⟩)))))
   subst e1 e2
   have hF:=loop_in hF
   refine xs (xq (wh 2 (we (ng ?_))))
   refine ite_elim hF (fun hc1 hF=>?_) (fun hc1 hF=>?_)
   ·refine kT 113 hc1 (xT (xk (ng (xs (xb (xq (wh 1 (bind_elim hF (fun y616 hy616 hF=>uC (r02_turn_ev hy616) (lows_cons rfl (lows_cons rfl rfl)) rfl (wh 3 (bind_elim hF (fun y617 hy617 hF=>uC (r02_turn_ev hy617) (lows_cons rfl (lows_cons rfl rfl)) rfl (wh 6 (bind_elim hF (fun y618 hy618 hF=>uC (r02_turn_ev hy618) (lows_cons rfl (lows_cons rfl rfl)) rfl (wh 9 (we (ng (xq (wh 9 (we (ng (xs (xd 0 call_ends callMono (wp 7 (bind_elim hF (fun y621 hy621 hF=>uI (cI .u32) 1 hy621 (fun _=>rfl) (uE (cI .u32) 0 (t:=210) (v:=.int .u32 y621) 1 1 hy621 (fun _=>rfl) (wp 12 (bind_elim hF (fun y622 hy622 hF=>w_siaddr (t:=215) (e:=210) (l:=0) (ex:=e312) (nl:=false) (kd:=.i64) (off:=0) (sz:=1) (len:=(64 : Int).toNat) hy622 (by kernel_rfl) (by kernel_rfl) (by kernel_rfl) (w_rload (cI .u32) (l:=0) (t:=210) (sz:=1) (fo:=0) (j:=(0+x605.2.2.2.2.2.2.2.2.toNat)) p431 (v:=.int .u32 y622) (z:=1) (idxR_at hy622) (by kernel_rfl) (by kernel_rfl) (fun _=>rfl) (by kernel_rfl) (by kernel_rfl) (by decide) (by decide) (wp 16 (we ?_))))))))))))))))))))))))))))))))))
    refine de (ng (xq (wh 1 (bind_elim hF (fun y623 hy623 hF=>uC (r02_turn_ev hy623) (lows_cons rfl (lows_cons rfl rfl)) rfl (wh 3 (bind_elim hF (fun y624 hy624 hF=>uC (r02_turn_ev hy624) (lows_cons rfl (lows_cons rfl rfl)) rfl (wh 6 (bind_elim hF (fun y625 hy625 hF=>uC (r02_turn_ev hy625) (lows_cons rfl (lows_cons rfl rfl)) rfl (wh 9 (we (ng (xq (wh 12 (we (ng (xq (wh 2 (we (ng (xq (wh 2 (we (ng (xq (wh 2 (we (ng (xq (wh 4 ?_))))))))))))))))))))))))))))))))
    exact we (ng (xq (wh 2 (we (ng (xq (wh 2 (we (ng (xq (wh 2 (we (ng (xr (wh 6 (we (block_n (ng (xr (wh 3 (we (then_n (x_back (VS.sm 3369993333393829974333376885877453834204643052817571557937845911418) ⟨(iAdd .u32 (iAdd .u32 (iAdd .u32 (iAdd .u32 (iAdd .u32 (iAdd .u32 x605.2.2.2.2.2.2.2.1 (iXor .u32 (iXor .u32 y616 y617) y618)) (iXor .u32 (iAnd .u32 x605.2.2.2.2.1 x605.2.2.2.2.2.1) (iAnd .u32 (iSub .u32 4294967295 x605.2.2.2.2.1) x605.2.2.2.2.2.2.1))) y621) y622) (iXor .u32 (iXor .u32 y623 y624) y625)) (iXor .u32 (iXor .u32 (iAnd .u32 x605.1 x605.2.1) (iAnd .u32 x605.1 x605.2.2.1)) (iAnd .u32 x605.2.1 x605.2.2.1)),x605.1,x605.2.1,x605.2.2.1,iAdd .u32 x605.2.2.2.1 (iAdd .u32 (iAdd .u32 (iAdd .u32 (iAdd .u32 x605.2.2.2.2.2.2.2.1 (iXor .u32 (iXor .u32 y616 y617) y618)) (iXor .u32 (iAnd .u32 x605.2.2.2.2.1 x605.2.2.2.2.2.1) (iAnd .u32 (iSub .u32 4294967295 x605.2.2.2.2.1) x605.2.2.2.2.2.2.1))) y621) y622),x605.2.2.2.2.1,x605.2.2.2.2.2.1,x605.2.2.2.2.2.2.1,iAdd .i64 x605.2.2.2.2.2.2.2.2 1),(some true),rfl,rfl,hF⟩)))))))))))))))))))))))
   exact kF 113 hc1 (xF (xe (then_e (then_e (block_e (then_n (x_to hJ3 (VS.si [] 3369993333393829974333376885877443449610925983162314496945191665662 (tights_at [0] (by kernel_rfl) (by exact ⟨(tight_sl low_cI),trivial⟩)) shh_nil) ⟨x605.1,x605.2.1,x605.2.2.1,x605.2.2.2.1,x605.2.2.2.2.1,x605.2.2.2.2.2.1,x605.2.2.2.2.2.2.1,x605.2.2.2.2.2.2.2.1,rfl,rfl,hF⟩)))))))
  refine xq (wh 1 (we (ng (xb (x_loop (fun d fr H=>∃ (x692 : (Sl Int)×Int) (g658 : Option Bool),fr=[sl (cI .u32) a0,.any,sl (cI .u32) a2,.any,.any,.any,.any,.ref e312 false 0 (0 * 1) ((64 : Int).toNat) 1,.any,.int .i64 x692.2,.any,.any,.any,.any,.any,.any,.any,.any,.any,.any,.any,.any,.any,.any,.any,.any,.any,.any,.any,.any,.bool false,.any,.any,.any,.any,.any,.any,.any,.any,.any,.any,junkB g658,.any,.any,.any,.any,.any,.any,.any,.any,.any,.any,.any,.any,.any,.any,.any,.any,.any,.any,.any,.any,.any,.any,.any,.any,.any,.any,.any,.any,.any,.any,.any,.any,.any,.any,.any,.any,.any,.any,.any,.any,.any,.any,.any,.any,.any,.any,.any,.any,.any,.any,.any,.any,.any,.any,.any,.any,.any,.any,.any,.any,.any,.any,.any,.any,.any,.any,.any,.any,.any,.any,.any,.any,.any,.any,.any,.any,.any,.any,.any,.any,.any,.any,.any,.any,.any,.any,.any,.any,.any,.any,.any,.any,.any,.any,.any,.any,.any,.any,.any,.any,.any,.any,.any,.any,.any,.any,.any,.any,.any,.any,.any,.any,.any,.any,.any,.any,.any,.any,.any,.any,.any,.any,.any,.any,.any,.any,.any,.any,.any,.any,.any,.any,.any,.any,.any,.any,.any,.any,.any,.any,.any,.any,.any,.any,.any,.any,.any,.any,.any,.any,.any,.any,.any,.any,.any,.any,.any,.any,.any,.any,.any,.any,.any,.any,.any,.any,.any,.any,.any,.any,.any,.any,.any,.any,.any,.any,.any,.any,.any]∧H=[rfb (cI .u32) x692.1]∧loopN (r02_block_B692 a0 a2) d x692=some r) (by kernel_rfl) (fun fr H ⟨x692,g658,e1,e2,hF⟩=>loop_no hF) (fun d692 fr H ⟨x692,g658,e1,e2,hF⟩=>?_) (VS.sm 3369993333393829974333376885877453834204643052817571560136877538682) ⟨(p333,16),none,rfl,rfl,hF⟩)))))
  subst e1 e2
  have hF:=loop_in hF
  refine xs (xq (wh 2 (we (ng ?_))))
  refine ite_elim hF (fun hc2 hF=>?_) (fun hc2 hF=>?_)
  ·refine kT 41 hc2 (xT (xk (ng (xs (xb (xq (wh 3 (bind_elim hF (fun y708 hy708 hF=>w_siaddr (t:=215) (e:=210) (l:=0) (ex:=e312) (nl:=false) (kd:=.i64) (off:=0) (sz:=1) (len:=(64 : Int).toNat) hy708 (by kernel_rfl) (by kernel_rfl) (by kernel_rfl) (w_rload (cI .u32) (l:=0) (t:=210) (sz:=1) (fo:=0) (j:=(0+(iSub .i64 x692.2 15).toNat)) x692.1 (v:=.int .u32 y708) (z:=1) (idxR_at hy708) (by kernel_rfl) (by kernel_rfl) (fun _=>rfl) (by kernel_rfl) (by kernel_rfl) (by decide) (by decide) (wh 6 (we (ng (xq (wh 3 (bind_elim hF (fun y709 hy709 hF=>w_siaddr (t:=215) (e:=210) (l:=0) (ex:=e312) (nl:=false) (kd:=.i64) (off:=0) (sz:=1) (len:=(64 : Int).toNat) hy709 (by kernel_rfl) (by kernel_rfl) (by kernel_rfl) (w_rload (cI .u32) (l:=0) (t:=210) (sz:=1) (fo:=0) (j:=(0+(iSub .i64 x692.2 2).toNat)) x692.1 (v:=.int .u32 y709) (z:=1) (idxR_at hy709) (by kernel_rfl) (by kernel_rfl) (fun _=>rfl) (by kernel_rfl) (by kernel_rfl) (by decide) (by decide) (wh 6 (we (ng (xq (wh 1 (bind_elim hF (fun y710 hy710 hF=>uC (r02_turn_ev hy710) (lows_cons rfl (lows_cons rfl rfl)) rfl (wh 3 (bind_elim hF (fun y711 hy711 hF=>uC (r02_turn_ev hy711) (lows_cons rfl (lows_cons rfl rfl)) rfl (wh 9 (we (ng (xq (wh 1 ?_)))))))))))))))))))))))))))))))))
   exact bind_elim hF (fun y712 hy712 hF=>uC (r02_turn_ev hy712) (lows_cons rfl (lows_cons rfl rfl)) rfl (wh 3 (bind_elim hF (fun y713 hy713 hF=>uC (r02_turn_ev hy713) (lows_cons rfl (lows_cons rfl rfl)) rfl (wh 9 (we (ng (x_rows 0 262143 [⟨18,[],[],[],[]⟩] call_ends callMono (by kernel_rfl) (by kernel_rfl) (wp 6 (bind_elim hF (fun y720 hy720 hF=>w_siaddr (t:=215) (e:=210) (l:=0) (ex:=e312) (nl:=false) (kd:=.i64) (off:=0) (sz:=1) (len:=(64 : Int).toNat) hy720 (by kernel_rfl) (by kernel_rfl) (by kernel_rfl) (w_rload (cI .u32) (l:=0) (t:=210) (sz:=1) (fo:=0) (j:=(0+(iSub .i64 x692.2 7).toNat)) x692.1 (v:=.int .u32 y720) (z:=1) (idxR_at hy720) (by kernel_rfl) (by kernel_rfl) (fun _=>rfl) (by kernel_rfl) (by kernel_rfl) (by decide) (by decide) (wp 14 (bind_elim hF (fun y721 hy721 hF=>w_siaddr (t:=215) (e:=210) (l:=0) (ex:=e312) (nl:=false) (kd:=.i64) (off:=0) (sz:=1) (len:=(64 : Int).toNat) hy721 (by kernel_rfl) (by kernel_rfl) (by kernel_rfl) (w_rload (cI .u32) (l:=0) (t:=210) (sz:=1) (fo:=0) (j:=(0+(iSub .i64 x692.2 16).toNat)) x692.1 (v:=.int .u32 y721) (z:=1) (idxR_at hy721) (by kernel_rfl) (by kernel_rfl) (fun _=>rfl) (by kernel_rfl) (by kernel_rfl) (by decide) (by decide) (wp 17 (bind_elim hF (fun y722 hy722 hF=>w_siaddr (t:=215) (e:=210) (l:=0) (ex:=e312) (nl:=false) (kd:=.i64) (off:=0) (sz:=1) (len:=(64 : Int).toNat) hy722 (by kernel_rfl) (by kernel_rfl) (by kernel_rfl) (we (rows_next (w_rstore (cI .u32) (l:=0) (sz:=1) (fo:=0) (j:=(0+x692.2.toNat)) x692.1 (iAdd .u32 (iAdd .u32 (iAdd .u32 (iXor .u32 (iXor .u32 y712 y713) (iQuo .u32 y709 1024)) y720) (iXor .u32 (iXor .u32 y710 y711) (iQuo .u32 y708 8))) y721) (v:=.int .u32 (iAdd .u32 (iAdd .u32 (iAdd .u32 (iXor .u32 (iXor .u32 y712 y713) (iQuo .u32 y709 1024)) y720) (iXor .u32 (iXor .u32 y710 y711) (iQuo .u32 y708 8))) y721)) (vs:=(cI .u32) (iAdd .u32 (iAdd .u32 (iAdd .u32 (iXor .u32 (iXor .u32 y712 y713) (iQuo .u32 y709 1024)) y720) (iXor .u32 (iXor .u32 y710 y711) (iQuo .u32 y708 8))) y721)) (z:=1) (idxR_at hy722) (by kernel_rfl) (by kernel_rfl) ((fun _=>rfl) _) (by kernel_rfl) (fun _=>rfl) (splice_all (((fun _=>rfl) _).trans ((fun _=>rfl) _).symm)) (by decide) (we (⟨⟨(by kernel_rfl),trivial⟩,(we (rows_done (de (block_n (ng (xr (wr 3 [rfb (cI .u32) (x692.1.put (0+x692.2.toNat) (iAdd .u32 (iAdd .u32 (iAdd .u32 (iXor .u32 (iXor .u32 y712 y713) (iQuo .u32 y709 1024)) y720) (iXor .u32 (iXor .u32 y710 y711) (iQuo .u32 y708 8))) y721))] (we (then_n (x_back (VS.sm 3369993333393829974333376885877453834204643052817571560136877538682) ⟨(x692.1.put (0+x692.2.toNat) (iAdd .u32 (iAdd .u32 (iAdd .u32 (iXor .u32 (iXor .u32 y712 y713) (iQuo .u32 y709 1024)) y720) (iXor .u32 (iXor .u32 y710 y711) (iQuo .u32 y708 8))) y721),iAdd .i64 x692.2 1),(some true),rfl,rfl,hF⟩))))))))))⟩))))))))))))))))))))))))
  exact kF 41 hc2 (xF (xe (then_e (then_e (block_e (then_n (x_to hJ2 (VS.sm 3369993333393829974333376885877453834204643052817571557937854283642) ⟨x692.1,rfl,rfl,hF⟩)))))))
 refine xq (wh 1 (we (ng (xb (x_loop (fun d fr H=>∃ (x737 : (Sl Int)×Int) (g729 : Option Bool),fr=[sl (cI .u32) a0,sl (cI .u8) a1,sl (cI .u32) a2,.any,.any,.any,.any,.ref e312 false 0 (0 * 1) ((64 : Int).toNat) 1,.int .i64 x737.2,.any,.any,.any,.any,.any,.any,.any,.any,.any,.any,.any,.any,.any,.any,.any,.any,.any,.any,.any,.any,.any,junkB g729,.any,.any,.any,.any,.any,.any,.any,.any,.any,.any,.any,.any,.any,.any,.any,.any,.any,.any,.any,.any,.any,.any,.any,.any,.any,.any,.any,.any,.any,.any,.any,.any,.any,.any,.any,.any,.any,.any,.any,.any,.any,.any,.any,.any,.any,.any,.any,.any,.any,.any,.any,.any,.any,.any,.any,.any,.any,.any,.any,.any,.any,.any,.any,.any,.any,.any,.any,.any,.any,.any,.any,.any,.any,.any,.any,.any,.any,.any,.any,.any,.any,.any,.any,.any,.any,.any,.any,.any,.any,.any,.any,.any,.any,.any,.any,.any,.any,.any,.any,.any,.any,.any,.any,.any,.any,.any,.any,.any,.any,.any,.any,.any,.any,.any,.any,.any,.any,.any,.any,.any,.any,.any,.any,.any,.any,.any,.any,.any,.any,.any,.any,.any,.any,.any,.any,.any,.any,.any,.any,.any,.any,.any,.any,.any,.any,.any,.any,.any,.any,.any,.any,.any,.any,.any,.any,.any,.any,.any,.any,.any,.any,.any,.any,.any,.any,.any,.any,.any,.any,.any,.any,.any,.any,.any,.any,.any,.any,.any,.any,.any,.any,.any,.any,.any,.any,.any,.any,.any,.any,.any]∧H=[rfb (cI .u32) x737.1]∧loopN (r02_block_B737 a0 a1 a2) d x737=some r) (by kernel_rfl) (fun fr H ⟨x737,g729,e1,e2,hF⟩=>loop_no hF) (fun d737 fr H ⟨x737,g729,e1,e2,hF⟩=>?_) (VS.sm 3369993333393829974333376885877453834204643052817571560137951280760) ⟨(y313,0),none,rfl,rfl,hF⟩)))))
 subst e1 e2
 have hF:=loop_in hF
 refine xs (xq (wh 2 (we (ng ?_))))
 refine ite_elim hF (fun hc3 hF=>?_) (fun hc3 hF=>?_)
 ·exact kT 30 hc3 (xT (xk (ng (xs (xb (xr (wh 5 (bind_elim hF (fun y740 hy740 hF=>uC (r02_word_ev hy740) (lows_cons (low_sl low_cI) (lows_cons rfl rfl)) rfl (bind_elim hF (fun y741 hy741 hF=>w_siaddr (t:=215) (e:=210) (l:=0) (ex:=e312) (nl:=false) (kd:=.i64) (off:=0) (sz:=1) (len:=(64 : Int).toNat) hy741 (by kernel_rfl) (by kernel_rfl) (by kernel_rfl) (w_rstore (cI .u32) (l:=0) (sz:=1) (fo:=0) (j:=(0+x737.2.toNat)) x737.1 y740 (v:=.int .u32 y740) (vs:=(cI .u32) y740) (z:=1) (idxR_at hy741) (by kernel_rfl) (by kernel_rfl) ((fun _=>rfl) _) (by kernel_rfl) (fun _=>rfl) (splice_all (((fun _=>rfl) _).trans ((fun _=>rfl) _).symm)) (by decide) (we (block_n (ng (xr (wr 3 [rfb (cI .u32) (x737.1.put (0+x737.2.toNat) y740)] (we (then_n (x_back (VS.sm 3369993333393829974333376885877453834204643052817571560137951280760) ⟨(x737.1.put (0+x737.2.toNat) y740,iAdd .i64 x737.2 1),(some true),rfl,rfl,hF⟩))))))))))))))))))))
 exact kF 30 hc3 (xF (xe (then_e (then_e (block_e (then_n (x_to hJ1 (VS.sm 3369993333393829974333376885877453834204643052817571560136877539194) ⟨x737.1,rfl,rfl,hF⟩)))))))
def r02_Sum_J4 (p370 : Arr 32) : Option (Arr 32) :=
  some p370
def r02_Sum_B397 (p332 : Sl Int) (k397 : (Int×(Arr 32))→Option (Arr 32)) (x397 : Int×(Arr 32)) : Option (Arr 32) :=
  if iLt x397.1 8=true then (idxL p332.l x397.1).bind fun y403=>(idxN 32 (iMul .i64 4 x397.1)).bind fun y404=>(idxN 32 (iAdd .i64 (iMul .i64 4 x397.1) 1)).bind fun y405=>(idxN 32 (iAdd .i64 (iMul .i64 4 x397.1) 2)).bind fun y406=>(idxN 32 (iAdd .i64 (iMul .i64 4 x397.1) 3)).bind fun y407=>k397 (iAdd .i64 x397.1 1,(((x397.2.set y404 (IntKind.wrap .u8 (iQuo .u32 y403 16777216))).set y405 (IntKind.wrap .u8 (iRem (iQuo .u32 y403 65536) 256))).set y406 (IntKind.wrap .u8 (iRem (iQuo .u32 y403 256) 256))).set y407 (IntKind.wrap .u8 (iRem y403 256))) else r02_Sum_J4 x397.2
def r02_Sum_J3 (p332 : Sl Int) : Option (Arr 32) :=
  loopN (r02_Sum_B397 p332) FUEL (0,(⟨[0,0,0,0,0,0,0,0,0,0,0,0,0,0,0,0,0,0,0,0,0,0,0,0,0,0,0,0,0,0,0,0],by rfl⟩ : Arr 32))
def r02_Sum_B425 (y308 : Sl Int) (y309 : (Sl Int)) (k425 : ((Sl Int)×Int)→Option (Arr 32)) (x425 : (Sl Int)×Int) : Option (Arr 32) :=
  if iLt x425.2 (y308.l.length : Int)=true then (cutL y308.weak (some x425.2) (some (iAdd .i64 x425.2 64)) none).bind fun y428=>(r02_block x425.1 y428 y309).bind fun y429=>k425 (y429,iAdd .i64 x425.2 64) else r02_Sum_J3 x425.1
def r02_Sum_J2 (p287 : Sl Int) (p306 : Sl Int) : Option (Arr 32) :=
  (appL 1 p287 p306.l).bind fun y308=>(r02_rounds).bind fun y309=>loopN (r02_Sum_B425 y308 y309) FUEL ((⟨false,true,[1779033703,3144134277,1013904242,2773480762,1359893119,2600822924,528734635,1541459225]⟩ : Sl Int),0)
def r02_Sum_B444 (p287 : Sl Int) (k444 : (Int×(Sl Int)×Int)→Option (Arr 32)) (x444 : Int×(Sl Int)×Int) : Option (Arr 32) :=
  if iLt x444.2.2 8=true then (appL 1 (⟨false,true,[IntKind.wrap .u8 (iRem x444.1 256)]⟩ : Sl Int) x444.2.1.l).bind fun y446=>k444 (iQuo .i64 x444.1 256,y446,iAdd .i64 x444.2.2 1) else r02_Sum_J2 p287 x444.2.1
def r02_Sum_J1 (a0 : List UInt8) (p287 : Sl Int) : Option (Arr 32) :=
  loopN (r02_Sum_B444 p287) FUEL (iMul .i64 (a0.length : Int) 8,⟨true,true,[]⟩,0)
def r02_Sum_B457 (a0 : List UInt8) (k457 : (Sl Int)→Option (Arr 32)) (x457 : (Sl Int)) : Option (Arr 32) :=
  if (iRem (x457.l.length : Int) 64 != 56)=true then (appL 1 x457 (⟨false,true,[0]⟩ : Sl Int).l).bind fun y458=>k457 y458 else r02_Sum_J1 a0 x457
def r02_Sum (a0 : List UInt8) : Option (Arr 32) :=
  (toBytes a0).bind fun y272=>(appL 1 y272 (⟨false,true,[128]⟩ : Sl Int).l).bind fun y273=>loopN (r02_Sum_B457 a0) FUEL y273
theorem r02_Sum_ev {a0 : List UInt8} {r : (Arr 32)} (hF : r02_Sum a0=some r) : EvCall Tryz.prog T G0 139 [.str a0] [] (fun v H'=>v=.agg ((cA .u8) r)∧H'=[]):=by
 refine xc Tryz.func139 ?_
 refine xq (wr 1 [.cells ((cA .u8) (Arr.zero 32))] (we (ng (xq (wh 1 (bind_elim hF (fun y272 hy272 hF=>w_bytes hy272 (by kernel_rfl) (w_frz (v:=sl (cI .u8) (⟨false,true,[128]⟩ : Sl Int)) (by kernel_rfl) (bind_elim hF (fun y273 hy273 hF=>w_app (cI .u8) (e:=5) (sz:=1) (l0:=1) (real:=true) (ver:=1) (x:=y272) (ys:=(⟨false,true,[128]⟩ : Sl Int).l) hy273 (by kernel_rfl) (by decide) (gives_sl (x:=(⟨false,true,[128]⟩ : Sl Int)) (by kernel_rfl) (fun _=>rfl)) (room_at (by kernel_rfl)) (wr 5 [.cells ((cA .u8) (Arr.zero 32)),.room (1+1) (true || !((⟨false,true,[128]⟩ : Sl Int).l.length==0))] (we (ng ?_)))))))))))))
 refine xj (fun fr H=>∃ (p287 : Sl Int) (g286 : Nat) (g288 : Bool),fr=[.str a0,.any,.ptr 0 0,ownv (cI .u8) 1 g286 1 p287,.any,.any,.any,.any,.any,.any,.any,.any,.any,.any,.any,.any,.any,.any,.any,.any,.bool false,.any,.any,.any,.any,.any,.any,.any,.any,.any,.any,.any,.any,.any,.any,.any,.any,.any,.any,.any,.any,.any,.any,.any,.any,.any,.any,.any,.any,.any,.any,.any,.any,.any,.any,.any,.any,.any,.any,.any,.any,.any,.any,.any,.any,.any,.any,.any,.any,.any,.any,.any,.any,.any,.any,.any,.any,.any,.any,.any,.any,.any,.any,.any,.any,.any,.any,.any,.any,.any,.any,.any,.any,.any,.any,.any,.any]∧H=[.cells ((cA .u8) (Arr.zero 32)),.room g286 g288]∧r02_Sum_J1 a0 p287=some r) (fun fr H ⟨p287,g286,g288,e1,e2,hF⟩=>?_) (fun hJ1=>?_)
 ·subst e1 e2
  refine xq (wh 4 (we (ng (xq (wh 1 (we (ng ?_)))))))
  refine xj (fun fr H=>∃ (p306 : Sl Int) (g307 : Bool),fr=[.any,.any,.ptr 0 0,ownv (cI .u8) 1 g286 1 p287,.any,ownv (cI .u8) 2 1 1 p306,.any,.any,.any,.any,.any,.any,.any,.any,.any,.any,.any,.any,.any,.any,.bool false,.any,.any,.any,.any,.any,.any,.any,.bool false,.any,.any,.any,.any,.any,.any,.any,.any,.any,.any,.any,.any,.any,.any,.any,.any,.any,.any,.any,.any,.any,.any,.any,.any,.any,.any,.any,.any,.any,.any,.any,.any,.any,.any,.any,.any,.any,.any,.any,.any,.any,.any,.any,.any,.any,.any,.any,.any,.any,.any,.any,.any,.any,.any,.any,.any,.any,.any,.any,.any,.any,.any,.any,.any,.any,.any,.any,.any]∧H=[.cells ((cA .u8) (Arr.zero 32)),.room g286 g288,.room 1 g307]∧r02_Sum_J2 p287 p306=some r) (fun fr H ⟨p306,g307,e1,e2,hF⟩=>?_) (fun hJ2=>?_)
  ·subst e1 e2
   refine xq (wh 2 (bind_elim hF (fun y308 hy308 hF=>w_app (cI .u8) (e:=5) (sz:=1) (l0:=1) (real:=g288) (ver:=g286) (x:=p287) (ys:=p306.l) hy308 (by kernel_rfl) (by decide) (gives_own (l0:=2) (ver:=1) (nl:=p306.nl) (sz0:=1) (by kernel_rfl) (fun _=>rfl)) (room_at (by kernel_rfl)) (wr 4 [.cells ((cA .u8) (Arr.zero 32)),.room (g286+1) (g288 || !(p306.l.length==0)),.room 1 g307] (we (ng (xq (w_frz (v:=sl (cI .u32) (⟨false,true,[1779033703,3144134277,1013904242,2773480762,1359893119,2600822924,528734635,1541459225]⟩ : Sl Int)) (by kernel_rfl) (wh 2 (we (ng (xq (bind_elim hF (fun y309 hy309 hF=>uC (r02_rounds_ev hy309) rfl (low_sl low_cI) (wh 2 (we (ng ?_)))))))))))))))))
   refine xj (fun fr H=>∃ (p332 : Sl Int),fr=[.any,.any,.ptr 0 0,.any,.any,.any,.any,sl (cI .u32) p332,.any,.any,.any,.any,.any,.any,.any,.any,.any,.any,.any,.any,.bool false,.any,.any,.any,.any,.any,.any,.any,.bool false,.any,.any,.any,.any,.any,.any,.any,.any,.any,.any,.any,.any,.any,.any,.any,.any,.any,.any,.bool false,.any,.any,.any,.any,.any,.any,.any,.any,.any,.any,.any,.any,.any,.any,.any,.any,.any,.any,.any,.any,.any,.any,.any,.any,.any,.any,.any,.any,.any,.any,.any,.any,.any,.any,.any,.any,.any,.any,.any,.any,.any,.any,.any,.any,.any,.any,.any,.any,.any]∧H=[.cells ((cA .u8) (Arr.zero 32))]∧r02_Sum_J3 p332=some r) (fun fr H ⟨p332,e1,e2,hF⟩=>?_) (fun hJ3=>?_)
   ·subst e1 e2
    refine xq (wr 3 [.cells ((cA .u8) (Arr.zero 32)),.cells ((cA .u8) (⟨[0,0,0,0,0,0,0,0,0,0,0,0,0,0,0,0,0,0,0,0,0,0,0,0,0,0,0,0,0,0,0,0],by rfl⟩ : Arr 32))] (we (ng ?_)))
    refine xj (fun fr H=>∃ (p370 : Arr 32),fr=[.any,.any,.ptr 0 0,.any,.any,.any,.any,.any,.any,.any,.ptr 1 0,.any,.any,.any,.any,.any,.any,.any,.any,.any,.bool false,.any,.any,.any,.any,.any,.any,.any,.bool false,.any,.any,.any,.any,.any,.any,.any,.any,.any,.any,.any,.any,.any,.any,.any,.any,.any,.any,.bool false,.any,.any,.any,.any,.any,.any,.any,.any,.any,.any,.any,.any,.bool false,.any,.any,.any,.any,.any,.any,.any,.any,.any,.any,.any,.any,.any,.any,.any,.any,.any,.any,.any,.any,.any,.any,.any,.any,.any,.any,.any,.any,.any,.any,.any,.any,.any,.any,.any,.any]∧H=[.cells ((cA .u8) (Arr.zero 32)),.cells ((cA .u8) p370)]∧r02_Sum_J4 p370=some r) (fun fr H ⟨p370,e1,e2,hF⟩=>?_) (fun hJ4=>?_)
    ·subst e1 e2
     refine xq (wr 2 [.cells ((cA .u8) p370),.cells ((cA .u8) p370)] (we (ng (xt ?_))))
     cases hF
     exact fE [] (.inl rfl) (low_agg (low_cA _)) ⟨rfl,rfl⟩
    refine xq (wh 1 (we (ng (xb (x_loop (fun d fr H=>∃ (x397 : Int×(Arr 32)) (g382 : Option Bool),fr=[.any,.any,.ptr 0 0,.any,.any,.any,.any,sl (cI .u32) p332,.any,.any,.ptr 1 0,.int .i64 x397.1,.any,.any,.any,.any,.any,.any,.any,.any,.bool false,.any,.any,.any,.any,.any,.any,.any,.bool false,.any,.any,.any,.any,.any,.any,.any,.any,.any,.any,.any,.any,.any,.any,.any,.any,.any,.any,.bool false,.any,.any,.any,.any,.any,.any,.any,.any,.any,.any,.any,.any,junkB g382,.any,.any,.any,.any,.any,.any,.any,.any,.any,.any,.any,.any,.any,.any,.any,.any,.any,.any,.any,.any,.any,.any,.any,.any,.any,.any,.any,.any,.any,.any,.any,.any,.any,.any,.any,.any]∧H=[.cells ((cA .u8) (Arr.zero 32)),.cells ((cA .u8) x397.2)]∧loopN (r02_Sum_B397 p332) d x397=some r) (by kernel_rfl) (fun fr H ⟨x397,g382,e1,e2,hF⟩=>loop_no hF) (fun d397 fr H ⟨x397,g382,e1,e2,hF⟩=>?_) (VS.sm 158456325028528534449330058107) ⟨(0,(⟨[0,0,0,0,0,0,0,0,0,0,0,0,0,0,0,0,0,0,0,0,0,0,0,0,0,0,0,0,0,0,0,0],by rfl⟩ : Arr 32)),none,rfl,rfl,hF⟩)))))
    subst e1 e2
    have hF:=loop_in hF
    refine xs (xq (wh 2 (we (ng ?_))))
    refine ite_elim hF (fun hc1 hF=>?_) (fun hc1 hF=>?_)
    ·refine kT 60 hc1 (xT (xk (ng (xs (xb (xq (wh 2 (bind_elim hF (fun y403 hy403 hF=>uI (cI .u32) 1 hy403 (fun _=>rfl) (uE (cI .u32) 0 (t:=210) (v:=.int .u32 y403) 1 1 hy403 (fun _=>rfl) (wh 5 (we (ng (xq (wh 5 (bind_elim hF (fun y404 hy404 hF=>w_aaddr (l:=1) (o:=0) hy404 (by kernel_rfl) (w_astore (l:=1) (o:=0) (kd:=.u8) (v:=IntKind.wrap .u8 (iQuo .u32 y403 16777216)) x397.2 hy404 (by kernel_rfl) (by kernel_rfl) (by kernel_rfl) (we (ng (xq (wr 7 [.cells ((cA .u8) (Arr.zero 32)),.cells ((cA .u8) (x397.2.set y404 (IntKind.wrap .u8 (iQuo .u32 y403 16777216))))] (bind_elim hF (fun y405 hy405 hF=>w_aaddr (l:=1) (o:=0) hy405 (by kernel_rfl) (w_astore (l:=1) (o:=0) (kd:=.u8) (v:=IntKind.wrap .u8 (iRem (iQuo .u32 y403 65536) 256)) (x397.2.set y404 (IntKind.wrap .u8 (iQuo .u32 y403 16777216))) hy405 (by kernel_rfl) (by kernel_rfl) (by kernel_rfl) (we (ng (xq (wr 7 [.cells ((cA .u8) (Arr.zero 32)),.cells ((cA .u8) ((x397.2.set y404 (IntKind.wrap .u8 (iQuo .u32 y403 16777216))).set y405 (IntKind.wrap .u8 (iRem (iQuo .u32 y403 65536) 256))))] (bind_elim hF (fun y406 hy406 hF=>w_aaddr (l:=1) (o:=0) hy406 (by kernel_rfl) (w_astore (l:=1) (o:=0) (kd:=.u8) (v:=IntKind.wrap .u8 (iRem (iQuo .u32 y403 256) 256)) ((x397.2.set y404 (IntKind.wrap .u8 (iQuo .u32 y403 16777216))).set y405 (IntKind.wrap .u8 (iRem (iQuo .u32 y403 65536) 256))) hy406 (by kernel_rfl) (by kernel_rfl) (by kernel_rfl) (we ?_)))))))))))))))))))))))))))))))))
     exact ng (xr (wr 6 [.cells ((cA .u8) (Arr.zero 32)),.cells ((cA .u8) (((x397.2.set y404 (IntKind.wrap .u8 (iQuo .u32 y403 16777216))).set y405 (IntKind.wrap .u8 (iRem (iQuo .u32 y403 65536) 256))).set y406 (IntKind.wrap .u8 (iRem (iQuo .u32 y403 256) 256))))] (bind_elim hF (fun y407 hy407 hF=>w_aaddr (l:=1) (o:=0) hy407 (by kernel_rfl) (w_astore (l:=1) (o:=0) (kd:=.u8) (v:=IntKind.wrap .u8 (iRem y403 256)) (((x397.2.set y404 (IntKind.wrap .u8 (iQuo .u32 y403 16777216))).set y405 (IntKind.wrap .u8 (iRem (iQuo .u32 y403 65536) 256))).set y406 (IntKind.wrap .u8 (iRem (iQuo .u32 y403 256) 256))) hy407 (by kernel_rfl) (by kernel_rfl) (by kernel_rfl) (we (block_n (ng (xr (wr 3 [.cells ((cA .u8) (Arr.zero 32)),.cells ((cA .u8) ((((x397.2.set y404 (IntKind.wrap .u8 (iQuo .u32 y403 16777216))).set y405 (IntKind.wrap .u8 (iRem (iQuo .u32 y403 65536) 256))).set y406 (IntKind.wrap .u8 (iRem (iQuo .u32 y403 256) 256))).set y407 (IntKind.wrap .u8 (iRem y403 256))))] (we (then_n (x_back (VS.sm 158456325028528534449330058107) ⟨(iAdd .i64 x397.1 1,(((x397.2.set y404 (IntKind.wrap .u8 (iQuo .u32 y403 16777216))).set y405 (IntKind.wrap .u8 (iRem (iQuo .u32 y403 65536) 256))).set y406 (IntKind.wrap .u8 (iRem (iQuo .u32 y403 256) 256))).set y407 (IntKind.wrap .u8 (iRem y403 256))),(some true),rfl,rfl,hF⟩)))))))))))))
    exact kF 60 hc1 (xF (xe (then_e (then_e (block_e (then_n (x_to hJ4 (VS.sm 158456325027375612944723213307) ⟨x397.2,rfl,rfl,hF⟩)))))))
   refine xq (wh 1 (we (ng (xb (x_loop (fun d fr H=>∃ (x425 : (Sl Int)×Int) (g415 : Option Bool) (g416 : Bool),fr=[.any,.any,.ptr 0 0,ownv (cI .u8) 1 (g286+1) 1 y308,.any,.any,.any,sl (cI .u32) x425.1,sl (cI .u32) y309,.int .i64 x425.2,.any,.any,.any,.any,.any,.any,.any,.any,.any,.any,.bool false,.any,.any,.any,.any,.any,.any,.any,.bool false,.any,.any,.any,.any,.any,.any,.any,.any,.any,.any,.any,.any,.any,.any,.any,.any,.any,.any,junkB g415,.any,.any,.any,.any,.any,.any,.any,.any,.any,.any,.any,.any,.any,.any,.any,.any,.any,.any,.any,.any,.any,.any,.any,.any,.any,.any,.any,.any,.any,.any,.any,.any,.any,.any,.any,.any,.any,.any,.any,.any,.any,.any,.any,.any,.any,.any,.any,.any,.any]∧H=[.cells ((cA .u8) (Arr.zero 32)),.room (g286+1) g416]∧loopN (r02_Sum_B425 y308 y309) d x425=some r) (by kernel_rfl) (fun fr H ⟨x425,g415,g416,e1,e2,hF⟩=>loop_no hF) (fun d425 fr H ⟨x425,g415,g416,e1,e2,hF⟩=>?_) (VS.si [0,1] 158456325028528675186818415731 (tights_at [3,7,8] (by kernel_rfl) (by exact ⟨(tight_own low_cI),(tight_sl low_cI),(tight_sl low_cI),trivial⟩)) (sk rfl (shh rfl shb_room shh_nil))) ⟨((⟨false,true,[1779033703,3144134277,1013904242,2773480762,1359893119,2600822924,528734635,1541459225]⟩ : Sl Int),0),none,(g288 || !(p306.l.length==0)),rfl,rfl,hF⟩)))))
   subst e1 e2
   have hF:=loop_in hF
   refine xs (xq (wh 4 (we (ng ?_))))
   refine ite_elim hF (fun hc2 hF=>?_) (fun hc2 hF=>?_)
   ·exact kT 47 hc2 (xT (xk (ng (xs (xb (xr (wh 5 (bind_elim hF (fun y428 hy428 hF=>w_sliceO (cI .u8) (l0:=1) (ver:=(g286+1)) (sz:=1) (s:=y308) hy428 (by kernel_rfl) (fun _=>rfl) (fun e=>by cases e) (wh 7 (bind_elim hF (fun y429 hy429 hF=>uC (r02_block_ev hy429) (lows_cons (low_sl low_cI) (lows_cons (low_sl low_cI) (lows_cons (low_sl low_cI) rfl))) (low_sl low_cI) (wh 9 (we (block_n (ng (xr (wh 3 (we (then_n (x_back (VS.sm 158456325028528675186818415731) ⟨(y429,iAdd .i64 x425.2 64),(some true),g416,rfl,rfl,hF⟩)))))))))))))))))))))
   exact kF 47 hc2 (xF (xe (then_e (then_e (block_e (then_n (x_to hJ3 (VS.si [0] 158456325028528534449330061179 (tights_at [7] (by kernel_rfl) (by exact ⟨(tight_sl low_cI),trivial⟩)) (sk rfl shh_nil)) ⟨x425.1,rfl,rfl,hF⟩)))))))
  refine xq (wh 1 (we (ng (xb (x_loop (fun d fr H=>∃ (x444 : Int×(Sl Int)×Int) (g435 : Option Bool) (g436 : Bool),fr=[.any,.any,.ptr 0 0,ownv (cI .u8) 1 g286 1 p287,.int .i64 x444.1,ownv (cI .u8) 2 1 1 x444.2.1,.int .i64 x444.2.2,.any,.any,.any,.any,.any,.any,.any,.any,.any,.any,.any,.any,.any,.bool false,.any,.any,.any,.any,.any,.any,.any,junkB g435,.any,.any,.any,.any,.any,.any,.any,.any,.any,.any,.any,.any,.any,.any,.any,.any,.any,.any,.any,.any,.any,.any,.any,.any,.any,.any,.any,.any,.any,.any,.any,.any,.any,.any,.any,.any,.any,.any,.any,.any,.any,.any,.any,.any,.any,.any,.any,.any,.any,.any,.any,.any,.any,.any,.any,.any,.any,.any,.any,.any,.any,.any,.any,.any,.any,.any,.any,.any]∧H=[.cells ((cA .u8) (Arr.zero 32)),.room g286 g288,.room 1 g436]∧loopN (r02_Sum_B444 p287) d x444=some r) (by kernel_rfl) (fun fr H ⟨x444,g435,g436,e1,e2,hF⟩=>loop_no hF) (fun d444 fr H ⟨x444,g435,g436,e1,e2,hF⟩=>?_) (VS.trans (VS.thaw (cI .u8) 5 1 ⟨true,true,[]⟩ (by kernel_rfl) rfl (fun _=>rfl)) (VS.sm 158456325028528675187086851971)) ⟨(iMul .i64 (a0.length : Int) 8,⟨true,true,[]⟩,0),none,false,rfl,rfl,hF⟩)))))
  subst e1 e2
  have hF:=loop_in hF
  refine xs (xq (wh 2 (we (ng ?_))))
  refine ite_elim hF (fun hc3 hF=>?_) (fun hc3 hF=>?_)
  ·exact kT 28 hc3 (xT (xk (ng (xs (xb (xq (wh 3 (w_frz (v:=sl (cI .u8) (⟨false,true,[IntKind.wrap .u8 (iRem x444.1 256)]⟩ : Sl Int)) (by kernel_rfl) (wh 5 (bind_elim hF (fun y446 hy446 hF=>w_app0 (cI .u8) (e:=5) (sz:=1) (x:=(⟨false,true,[IntKind.wrap .u8 (iRem x444.1 256)]⟩ : Sl Int)) (ys:=x444.2.1.l) hy446 (by kernel_rfl) (by kernel_rfl) (by decide) (fun _=>rfl) (gives_own (l0:=2) (ver:=1) (nl:=x444.2.1.nl) (sz0:=1) (by kernel_rfl) (fun _=>rfl)) (wr 7 [.cells ((cA .u8) (Arr.zero 32)),.room g286 g288,.room 1 g436,.room 1 (!(x444.2.1.l.length==0))] (we (ng (xr (wh 3 (we (block_n (ng (xr (wh 3 (we (then_n (x_back (VS.si [0,1,3] 158456325028528675187086851971 (tights_at [3,5] (by kernel_rfl) (by exact ⟨(tight_own low_cI),(tight_own low_cI),trivial⟩)) (sk rfl (shh rfl shb_room (shh rfl shb_room shh_nil)))) ⟨(iQuo .i64 x444.1 256,y446,iAdd .i64 x444.2.2 1),(some true),(!(x444.2.1.l.length==0)),rfl,rfl,hF⟩))))))))))))))))))))))))
  exact kF 28 hc3 (xF (xe (then_e (then_e (block_e (then_n (x_to hJ2 (VS.sm 158456325028528675186818416595) ⟨x444.2.1,g436,rfl,rfl,hF⟩)))))))
 refine xb (x_loop (fun d fr H=>∃ (x457 : (Sl Int)) (g448 : Nat) (g450 : Option Bool) (g451 : Bool),fr=[.str a0,.any,.ptr 0 0,ownv (cI .u8) 1 g448 1 x457,.any,.any,.any,.any,.any,.any,.any,.any,.any,.any,.any,.any,.any,.any,.any,.any,junkB g450,.any,.any,.any,.any,.any,.any,.any,.any,.any,.any,.any,.any,.any,.any,.any,.any,.any,.any,.any,.any,.any,.any,.any,.any,.any,.any,.any,.any,.any,.any,.any,.any,.any,.any,.any,.any,.any,.any,.any,.any,.any,.any,.any,.any,.any,.any,.any,.any,.any,.any,.any,.any,.any,.any,.any,.any,.any,.any,.any,.any,.any,.any,.any,.any,.any,.any,.any,.any,.any,.any,.any,.any,.any,.any,.any,.any]∧H=[.cells ((cA .u8) (Arr.zero 32)),.room g448 g451]∧loopN (r02_Sum_B457 a0) d x457=some r) (by kernel_rfl) (fun fr H ⟨x457,g448,g450,g451,e1,e2,hF⟩=>loop_no hF) (fun d457 fr H ⟨x457,g448,g450,g451,e1,e2,hF⟩=>?_) (VS.sm 158456325028528675187087900658) ⟨y273,(1+1),none,(true || !((⟨false,true,[128]⟩ : Sl Int).l.length==0)),rfl,rfl,hF⟩)
 subst e1 e2
 have hF:=loop_in hF
 refine xs (xq (wh 4 (we (ng ?_))))
 refine ite_elim hF (fun hc4 hF=>?_) (fun hc4 hF=>?_)
 ·exact kT 20 hc4 (xT (xk (ng (xb (xr (wh 1 (w_frz (v:=sl (cI .u8) (⟨false,true,[0]⟩ : Sl Int)) (by kernel_rfl) (bind_elim hF (fun y458 hy458 hF=>w_app (cI .u8) (e:=5) (sz:=1) (l0:=1) (real:=g451) (ver:=g448) (x:=x457) (ys:=(⟨false,true,[0]⟩ : Sl Int).l) hy458 (by kernel_rfl) (by decide) (gives_sl (x:=(⟨false,true,[0]⟩ : Sl Int)) (by kernel_rfl) (fun _=>rfl)) (room_at (by kernel_rfl)) (wr 4 [.cells ((cA .u8) (Arr.zero 32)),.room (g448+1) (g451 || !((⟨false,true,[0]⟩ : Sl Int).l.length==0))] (we (block_n (then_n (x_back (VS.sm 158456325028528675187087900658) ⟨y458,(g448+1),(some true),(g451 || !((⟨false,true,[0]⟩ : Sl Int).l.length==0)),rfl,rfl,hF⟩))))))))))))))
 exact kF 20 hc4 (xF (xe (then_e (then_e (block_e (then_n (x_to hJ1 (VS.sm 158456325028528675187086852082) ⟨x457,g448,g451,rfl,rfl,hF⟩)))))))
def r02_Bytes_J1 (p492 : Sl Int) : Option (List UInt8) :=
  some (bytesS p492.l)
def r02_Bytes_B520 (a0 : Arr 32) (k520 : ((Sl Int)×Int)→Option (List UInt8)) (x520 : (Sl Int)×Int) : Option (List UInt8) :=
  if iLt x520.2 32=true then (idxN 32 x520.2).bind fun y523=>(appL 1 x520.1 (⟨false,true,[a0.at y523]⟩ : Sl Int).l).bind fun y524=>k520 (y524,iAdd .i64 x520.2 1) else r02_Bytes_J1 x520.1
def r02_Bytes (a0 : Arr 32) : Option (List UInt8) :=
  loopN (r02_Bytes_B520 a0) FUEL (⟨true,true,[]⟩,0)
theorem r02_Bytes_ev {a0 : Arr 32} {r : (List UInt8)} (hF : r02_Bytes a0=some r) : EvCall Tryz.prog T G0 138 [.agg ((cA .u8) a0)] [] (fun v H'=>v=.str r∧H'=[]):=by
 refine xc Tryz.func138 ?_
 refine xq (wr 2 [.cells ((cA .u8) a0)] (we (ng (xq (wh 1 (we (ng ?_)))))))
 refine xj (fun fr H=>∃ (p492 : Sl Int) (g491 : Nat) (g493 : Bool),fr=[.any,.any,.any,ownv (cI .u8) 0 g491 1 p492,.any,.any,.bool false,.any,.any,.any,.any,.any,.any,.any,.any,.any,.any]∧H=[.room g491 g493]∧r02_Bytes_J1 p492=some r) (fun fr H ⟨p492,g491,g493,e1,e2,hF⟩=>?_) (fun hJ1=>?_)
 ·subst e1 e2
  refine xq (wh 1 (w_str (l:=p492.l) (by kernel_rfl) (wh 3 (we (ng (xt ?_))))))
  cases hF
  exact fE [] (.inl rfl) rfl ⟨rfl,rfl⟩
 refine xq (wh 1 (we (ng (xb (x_loop (fun d fr H=>∃ (x520 : (Sl Int)×Int) (g506 : Nat) (g509 : Option Bool) (g510 : Bool),fr=[.any,.ptr 0 0,.any,ownv (cI .u8) 1 g506 1 x520.1,.int .i64 x520.2,.any,junkB g509,.any,.any,.any,.any,.any,.any,.any,.any,.any,.any]∧H=[.cells ((cA .u8) a0),.room g506 g510]∧loopN (r02_Bytes_B520 a0) d x520=some r) (by kernel_rfl) (fun fr H ⟨x520,g506,g509,g510,e1,e2,hF⟩=>loop_no hF) (fun d520 fr H ⟨x520,g506,g509,g510,e1,e2,hF⟩=>?_) (VS.trans (VS.thaw (cI .u8) 3 1 ⟨true,true,[]⟩ (by kernel_rfl) rfl (fun _=>rfl)) (VS.sm 131045)) ⟨(⟨true,true,[]⟩,0),1,none,false,rfl,rfl,hF⟩)))))
 subst e1 e2
 have hF:=loop_in hF
 refine xs (xq (wh 2 (we (ng ?_))))
 refine ite_elim hF (fun hc1 hF=>?_) (fun hc1 hF=>?_)
 ·exact kT 6 hc1 (xT (xk (ng (xs (xb (xr (wh 2 (bind_elim hF (fun y523 hy523 hF=>w_aaddr (l:=0) (o:=0) hy523 (by kernel_rfl) (w_aload (l:=0) (o:=0) (kd:=.u8) a0 hy523 (by kernel_rfl) (by kernel_rfl) (by kernel_rfl) (w_frz (v:=sl (cI .u8) (⟨false,true,[a0.at y523]⟩ : Sl Int)) (by kernel_rfl) (bind_elim hF (fun y524 hy524 hF=>w_app (cI .u8) (e:=5) (sz:=1) (l0:=1) (real:=g510) (ver:=g506) (x:=x520.1) (ys:=(⟨false,true,[a0.at y523]⟩ : Sl Int).l) hy524 (by kernel_rfl) (by decide) (gives_sl (x:=(⟨false,true,[a0.at y523]⟩ : Sl Int)) (by kernel_rfl) (fun _=>rfl)) (room_at (by kernel_rfl)) (wr 7 [.cells ((cA .u8) a0),.room (g506+1) (g510 || !((⟨false,true,[a0.at y523]⟩ : Sl Int).l.length==0))] (we (block_n (ng (xr (wh 3 (we (then_n (x_back (VS.sm 131045) ⟨(y524,iAdd .i64 x520.2 1),(g506+1),(some true),(g510 || !((⟨false,true,[a0.at y523]⟩ : Sl Int).l.length==0)),rfl,rfl,hF⟩))))))))))))))))))))))
 exact kF 6 hc1 (xF (xe (then_e (then_e (block_e (then_n (x_to hJ1 (VS.si [1] 130999 (tights_at [3] (by kernel_rfl) (by exact ⟨(tight_own low_cI),trivial⟩)) (shh rfl shb_room shh_nil)) ⟨x520.1,g506,g510,rfl,rfl,hF⟩)))))))
def r03_pad_J10 (p335 : Sl Int) : Option (List UInt8) :=
  some (bytesS p335.l)
def r03_pad_J18 (a1 : Int) (k385 : ((Sl Int)×Int)→Option (List UInt8)) (x385 : (Sl Int)×Int) (p392 : Int) : Option (List UInt8) :=
  (appL 1 x385.1 (⟨false,true,[iXor .u8 p392 a1]⟩ : Sl Int).l).bind fun y394=>k385 (y394,iAdd .i64 x385.2 1)
def r03_pad_B385 (a1 : Int) (p274 : List UInt8) (k385 : ((Sl Int)×Int)→Option (List UInt8)) (x385 : (Sl Int)×Int) : Option (List UInt8) :=
  if iLt x385.2 64=true then if iLt x385.2 (p274.length : Int)=true then (idxB p274 x385.2).bind fun y395=>r03_pad_J18 a1 k385 x385 y395 else r03_pad_J18 a1 k385 x385 0 else r03_pad_J10 x385.1
def r03_pad_J1 (a1 : Int) (p274 : List UInt8) : Option (List UInt8) :=
  loopN (r03_pad_B385 a1 p274) FUEL (⟨true,true,[]⟩,0)
def r03_pad (a0 : List UInt8) (a1 : Int) : Option (List UInt8) :=
  if iGt (a0.length : Int) 64=true then (r02_Sum a0).bind fun y396=>(r02_Bytes y396).bind fun y397=>r03_pad_J1 a1 y397 else r03_pad_J1 a1 a0
theorem r03_pad_ev {a0 : List UInt8} {a1 : Int} {r : (List UInt8)} (hF : r03_pad a0 a1=some r) : EvCall Tryz.prog T G0 140 [.str a0,.int .u8 a1] [] (fun v H'=>v=.str r∧H'=[]):=by
 refine xc Tryz.func140 ?_
 refine xq (wh 1 (we (ng ?_)))
 refine xj (fun fr H=>∃ (p274 : List UInt8) (g275 : Option Bool),fr=[.str p274,.int .u8 a1,.any,.any,.any,.any,.any,.any,.any,.any,junkB g275,.any,.any,.any,.any,.any,.any,.any,.any,.any,.any,.any,.any,.any,.any,.any,.any,.any,.any,.any,.any,.any,.any]∧H=[]∧r03_pad_J1 a1 p274=some r) (fun fr H ⟨p274,g275,e1,e2,hF⟩=>?_) (fun hJ1=>?_)
 ·subst e1 e2
  refine xq (wh 1 (we (ng ?_)))
  refine xj (fun fr H=>∃ (p335 : Sl Int) (g334 : Nat) (g336 : Option Bool) (g337 : Bool),fr=[.any,.any,.any,.any,.any,ownv (cI .u8) 0 g334 1 p335,.any,.any,.any,.any,junkB g275,.any,.any,.any,.any,.bool false,.any,.any,.any,.any,.any,junkB g336,.any,.any,.any,.any,.any,.any,.any,.any,.any,.any,.any]∧H=[.room g334 g337]∧r03_pad_J10 p335=some r) (fun fr H ⟨p335,g334,g336,g337,e1,e2,hF⟩=>?_) (fun hJ10=>?_)
  ·subst e1 e2
   refine xq (wh 1 (w_str (l:=p335.l) (by kernel_rfl) (wh 3 (we (ng (xt ?_))))))
   cases hF
   exact fE [] (.inl rfl) rfl ⟨rfl,rfl⟩
  refine xq (wh 1 (we (ng (xb (x_loop (fun d fr H=>∃ (x385 : (Sl Int)×Int) (g363 : Nat) (g366 : Option Bool) (g367 : Option Bool) (g368 : Bool),fr=[.str p274,.int .u8 a1,.any,.any,.any,ownv (cI .u8) 0 g363 1 x385.1,.int .i64 x385.2,.any,.any,.any,junkB g275,.any,.any,.any,.any,junkB g366,.any,.any,.any,.any,.any,junkB g367,.any,.any,.any,.any,.any,.any,.any,.any,.any,.any,.any]∧H=[.room g363 g368]∧loopN (r03_pad_B385 a1 p274) d x385=some r) (by kernel_rfl) (fun fr H ⟨x385,g363,g366,g367,g368,e1,e2,hF⟩=>loop_no hF) (fun d385 fr H ⟨x385,g363,g366,g367,g368,e1,e2,hF⟩=>?_) (VS.trans (VS.thaw (cI .u8) 5 1 ⟨true,true,[]⟩ (by kernel_rfl) rfl (fun _=>rfl)) (VS.sm 8589933468)) ⟨(⟨true,true,[]⟩,0),1,none,none,false,rfl,rfl,hF⟩)))))
  subst e1 e2
  have hF:=loop_in hF
  refine xs (xq (wh 2 (we (ng ?_))))
  refine ite_elim hF (fun hc1 hF=>?_) (fun hc1 hF=>?_)
  ·refine kT 15 hc1 (xT (xk (ng (xs (xb (xq (wh 1 (we (ng ?_)))))))))
   refine xj (fun fr H=>∃ (p392 : Int) (g393 : Option Bool),fr=[.str p274,.int .u8 a1,.any,.any,.any,ownv (cI .u8) 0 g363 1 x385.1,.int .i64 x385.2,.int .u8 p392,.any,.any,junkB g275,.any,.any,.any,.any,.bool true,.any,.any,.any,.any,.any,junkB g393,.any,.any,.any,.any,.any,.any,.any,.any,.any,.any,.any]∧H=[.room g363 g368]∧r03_pad_J18 a1 (loopN (r03_pad_B385 a1 p274) d385) x385 p392=some r) (fun fr H ⟨p392,g393,e1,e2,hF⟩=>?_) (fun hJ18=>?_)
   ·subst e1 e2
    exact xr (wh 4 (w_frz (v:=sl (cI .u8) (⟨false,true,[iXor .u8 p392 a1]⟩ : Sl Int)) (by kernel_rfl) (bind_elim hF (fun y394 hy394 hF=>w_app (cI .u8) (e:=5) (sz:=1) (l0:=0) (real:=g368) (ver:=g363) (x:=x385.1) (ys:=(⟨false,true,[iXor .u8 p392 a1]⟩ : Sl Int).l) hy394 (by kernel_rfl) (by decide) (gives_sl (x:=(⟨false,true,[iXor .u8 p392 a1]⟩ : Sl Int)) (by kernel_rfl) (fun _=>rfl)) (room_at (by kernel_rfl)) (wr 7 [.room (g363+1) (g368 || !((⟨false,true,[iXor .u8 p392 a1]⟩ : Sl Int).l.length==0))] (we (block_n (ng (xr (wh 3 (we (then_n (x_back (VS.sm 8587836316) ⟨(y394,iAdd .i64 x385.2 1),(g363+1),(some true),g393,(g368 || !((⟨false,true,[iXor .u8 p392 a1]⟩ : Sl Int).l.length==0)),rfl,rfl,hF⟩)))))))))))))
   refine xq (wh 4 (we (ng ?_)))
   refine ite_elim hF (fun hc2 hF=>?_) (fun hc2 hF=>?_)
   ·exact kT 21 hc2 (xT (xr (wh 2 (bind_elim hF (fun y395 hy395 hF=>w_idx (by kernel_rfl) hy395 (wh 4 (we (then_n (x_to hJ18 (VS.sm 8589900572) ⟨y395,(some true),rfl,rfl,hF⟩)))))))))
   exact kF 21 hc2 (xF (xk (then_n (x_to hJ18 (VS.sm 8589900572) ⟨0,(some false),rfl,rfl,hF⟩))))
  exact kF 15 hc1 (xF (xe (then_e (then_e (block_e (then_n (x_to hJ10 (VS.sm 8587803615) ⟨x385.1,g363,g367,g368,rfl,rfl,hF⟩)))))))
 refine xq (wh 3 (we (ng ?_)))
 refine ite_elim hF (fun hc3 hF=>?_) (fun hc3 hF=>?_)
 ·exact kT 10 hc3 (xT (xr (wh 1 (bind_elim hF (fun y396 hy396 hF=>uC (r02_Sum_ev hy396) (lows_cons rfl rfl) (low_agg (low_cA _)) (bind_elim hF (fun y397 hy397 hF=>uC (r02_Bytes_ev hy397) (lows_cons (low_agg (low_cA _)) rfl) rfl (wh 4 (we (then_n (x_to hJ1 (VS.sm 8589934588) ⟨y397,(some true),rfl,rfl,hF⟩)))))))))))
 exact kF 10 hc3 (xF (xk (then_n (x_to hJ1 (VS.sm 8589934588) ⟨a0,(some false),rfl,rfl,hF⟩))))
def r03_Tag (a0 : List UInt8) (a1 : List UInt8) : Option (Arr 32) :=
  (r03_pad a0 54).bind fun y272=>(catS y272 a1).bind fun y273=>(r02_Sum y273).bind fun y274=>(r02_Bytes y274).bind fun y275=>(r03_pad a0 92).bind fun y276=>(catS y276 y275).bind fun y277=>(r02_Sum y277).bind fun y278=>some y278
theorem r03_Tag_ev {a0 : List UInt8} {a1 : List UInt8} {r : (Arr 32)} (hF : r03_Tag a0 a1=some r) : EvCall Tryz.prog T G0 117 [.str a0,.str a1] [] (fun v H'=>v=.agg ((cA .u8) r)∧H'=[]):=by
 refine xc Tryz.func117 ?_
 refine xq (wr 1 [.cells ((cA .u8) (Arr.zero 32))] (we (ng (xq (wh 1 (bind_elim hF (fun y272 hy272 hF=>uC (r03_pad_ev hy272) (lows_cons rfl (lows_cons rfl rfl)) rfl (wh 3 (bind_elim hF (fun y273 hy273 hF=>w_cat (by kernel_rfl) hy273 (bind_elim hF (fun y274 hy274 hF=>uC (r02_Sum_ev hy274) (lows_cons rfl rfl) (low_agg (low_cA _)) (bind_elim hF (fun y275 hy275 hF=>uC (r02_Bytes_ev hy275) (lows_cons (low_agg (low_cA _)) rfl) rfl (wh 7 (we (ng (xq (wh 1 (bind_elim hF (fun y276 hy276 hF=>uC (r03_pad_ev hy276) (lows_cons rfl (lows_cons rfl rfl)) rfl (wh 3 (bind_elim hF (fun y277 hy277 hF=>w_cat (by kernel_rfl) hy277 (bind_elim hF (fun y278 hy278 hF=>uC (r02_Sum_ev hy278) (lows_cons rfl rfl) (low_agg (low_cA _)) (wr 6 [.cells ((cA .u8) y278)] (we (ng (xt ?_))))))))))))))))))))))))))))))
 cases hF
 exact fE [] (.inl rfl) (low_agg (low_cA _)) ⟨rfl,rfl⟩
def r03_Make (a0 : List UInt8) (a1 : List UInt8) (a2 : Int) : Option (List UInt8) :=
  (r01_Text a1).bind fun y266=>if (y266.2 != 0)=true then some [] else (r01_Number a2).bind fun y267=>(catS y266.1 y267).bind fun y268=>(r03_Tag a0 y268).bind fun y269=>(r02_Bytes y269).bind fun y270=>some y270
theorem r03_Make_ev {a0 : List UInt8} {a1 : List UInt8} {a2 : Int} {r : (List UInt8)} (hF : r03_Make a0 a1 a2=some r) : EvCall Tryz.prog T G0 118 [.str a0,.str a1,.int .i64 a2] [] (fun v H'=>v=.str r∧H'=[]):=by
 refine xc Tryz.func118 ?_
 refine xq (wh 1 (we (ng (xq (wh 1 (bind_elim hF (fun y266 hy266 hF=>uC (r01_Text_ev hy266) (lows_cons rfl rfl) (low_tup (lows_cons rfl (lows_cons rfl rfl))) (wh 7 (we (ng (xs (xq (wh 2 (we (ng ?_)))))))))))))))
 refine ite_elim hF (fun hc1 hF=>?_) (fun hc1 hF=>?_)
 ·refine kT 15 hc1 (xT (xq (wh 1 (we (ng (xt (then_r ?_)))))))
  cases hF
  exact fE [] (.inl rfl) rfl ⟨rfl,rfl⟩
 refine kF 15 hc1 (xF (xk (ng (xq (wh 3 (bind_elim hF (fun y267 hy267 hF=>uC (r01_Number_ev hy267) (lows_cons rfl rfl) rfl (bind_elim hF (fun y268 hy268 hF=>w_cat (by kernel_rfl) hy268 (bind_elim hF (fun y269 hy269 hF=>uC (r03_Tag_ev hy269) (lows_cons rfl (lows_cons rfl rfl)) (low_agg (low_cA _)) (bind_elim hF (fun y270 hy270 hF=>uC (r02_Bytes_ev hy270) (lows_cons (low_agg (low_cA _)) rfl) rfl (wh 8 (we (ng (xt ?_)))))))))))))))))
 cases hF
 exact fE [] (.inl rfl) rfl ⟨rfl,rfl⟩
def r04_Ring_Of (a0 : Affidavitref04_Line) (a1 : Affidavitref04_Ring) : Option (Arr 32) :=
  (r03_Make a1.Seed [99,108,105,101,110,116] a0.Client).bind fun y274=>(r01_Number a0.Domain).bind fun y275=>(catS y275 a0.Text).bind fun y276=>(r03_Tag y274 y276).bind fun y277=>some y277
theorem r04_Ring_Of_ev {a0 : Affidavitref04_Line} {a1 : Affidavitref04_Ring} {r : (Arr 32)} (hF : r04_Ring_Of a0 a1=some r) : EvCall Tryz.prog T G0 74 [.ptr 0 0,.agg (cAffidavitref04_Line a0)] [.cells (cAffidavitref04_Ring a1)] (fun v H'=>v=.agg ((cA .u8) r)∧H'=[.cells (cAffidavitref04_Ring a1)]):=by
 refine xc Tryz.func74 ?_
 refine xq (wr 2 [.cells (cAffidavitref04_Ring a1),.cells (cAffidavitref04_Line a0),.cells ((cA .u8) (Arr.zero 32))] (we (ng (xs (x_rows 0 16383 [⟨14,[],[],[],[]⟩] call_ends callMono (by kernel_rfl) (by kernel_rfl) (wp 6 (bind_elim hF (fun y274 hy274 hF=>uC (r03_Make_ev hy274) (lows_cons rfl (lows_cons rfl (lows_cons rfl rfl))) rfl (wp 9 (bind_elim hF (fun y275 hy275 hF=>uC (r01_Number_ev hy275) (lows_cons rfl rfl) rfl (wp 12 (bind_elim hF (fun y276 hy276 hF=>w_cat (by kernel_rfl) hy276 (bind_elim hF (fun y277 hy277 hF=>uC (r03_Tag_ev hy277) (lows_cons rfl (lows_cons rfl rfl)) (low_agg (low_cA _)) (we (rows_next (wr 1 [.cells (cAffidavitref04_Ring a1),.cells (cAffidavitref04_Line a0),.cells ((cA .u8) y277)] (we (⟨⟨(by kernel_rfl),trivial⟩,(we (rows_done (de (ng (xt ?_)))))⟩)))))))))))))))))))))
 cases hF
 exact fS [0] (.inl rfl) (tight_agg (tights_lows (low_cA _))) (st (tights_lows (low_cAffidavitref04_Ring _)) rfl shh_nil) ⟨rfl,rfl⟩
def r04_Ring_Check_J1 (p256 : Bool) : Option Bool :=
  some p256
def r04_Ring_Check (a0 : Affidavitref04_Line) (a1 : Arr 32) (a2 : Affidavitref04_Ring) : Option Bool :=
  (r04_Ring_May a0 a2).bind fun y263=>if y263=true then (r04_Ring_Of a0 a2).bind fun y264=>r04_Ring_Check_J1 (eqA y264 a1) else r04_Ring_Check_J1 false
theorem r04_Ring_Check_ev {a0 : Affidavitref04_Line} {a1 : Arr 32} {a2 : Affidavitref04_Ring} {r : Bool} (hF : r04_Ring_Check a0 a1 a2=some r) : EvCall Tryz.prog T G0 29 [.ptr 0 0,.agg (cAffidavitref04_Line a0),.agg ((cA .u8) a1)] [.cells (cAffidavitref04_Ring a2)] (fun v H'=>v=.bool r∧H'=[.cells (cAffidavitref04_Ring a2)]):=by
 refine xc Tryz.func29 ?_
 refine xq (wr 3 [.cells (cAffidavitref04_Ring a2),.cells (cAffidavitref04_Line a0),.cells ((cA .u8) a1)] (we (ng ?_)))
 refine xj (fun fr H=>∃ (p256 : Bool) (g257 : Option Bool) (g258 : Option Bool) (g259 : Option Bool) (g260 : Option Bool),fr=[.any,.any,.any,.any,.any,.any,.bool p256,.any,.any,junkB g257,junkB g258,.any,.any,.any,.any,junkB g259,junkB g260]∧H=[.cells (cAffidavitref04_Ring a2)]∧r04_Ring_Check_J1 p256=some r) (fun fr H ⟨p256,g257,g258,g259,g260,e1,e2,hF⟩=>?_) (fun hJ1=>?_)
 ·subst e1 e2
  refine xt ?_
  cases hF
  exact fS [0] (.inl rfl) rfl (st (tights_lows (low_cAffidavitref04_Ring _)) rfl shh_nil) ⟨rfl,rfl⟩
 refine xd 0 call_ends callMono (wp 2 (bind_elim hF (fun y263 hy263 hF=>uOs [0] [0] (v:=.bool y263) [.cells (cAffidavitref04_Ring a2)] (r04_Ring_May_ev hy263) (tights_cons rfl (tights_cons (tight_agg (tights_lows (low_cAffidavitref04_Line _))) rfl)) (pl (b':=.cells (cAffidavitref04_Ring a2)) (by kernel_rfl) (sb_cells (by kernel_rfl) (by kernel_rfl) (tights_lows (low_cAffidavitref04_Ring _))) pl_nil) rfl (sbs (sb_cells (by kernel_rfl) (by kernel_rfl) (tights_lows (low_cAffidavitref04_Ring _))) sbs_nil) (wp 4 ?_))))
 refine ite_elim hF (fun hc1 hF=>?_) (fun hc1 hF=>?_)
 ·exact wT 10 hc1 (wp 6 (bind_elim hF (fun y264 hy264 hF=>uOs [0] [0] (v:=.agg ((cA .u8) y264)) [.cells (cAffidavitref04_Ring a2)] (r04_Ring_Of_ev hy264) (tights_cons rfl (tights_cons (tight_agg (tights_lows (low_cAffidavitref04_Line _))) rfl)) (pl (b':=.cells (cAffidavitref04_Ring a2)) (by kernel_rfl) (sb_cells (by kernel_rfl) (by kernel_rfl) (tights_lows (low_cAffidavitref04_Ring _))) pl_nil) (tight_agg (tights_lows (low_cA _))) (sbs (sb_cells (by kernel_rfl) (by kernel_rfl) (tights_lows (low_cAffidavitref04_Ring _))) sbs_nil) (wp 8 (w_eql (b:=eqA y264 a1) (by kernel_rfl) (wp 11 (we (de (then_n (x_to hJ1 (VS.si [0] 131007 (by kernel_rfl) (st (tights_lows (low_cAffidavitref04_Ring _)) rfl shh_nil)) ⟨eqA y264 a1,(some y263),(some true),(some (eqA y264 a1)),(some (eqA y264 a1)),rfl,rfl,hF⟩))))))))))
 exact wF 10 hc1 (wp 11 (we (de (then_n (x_to hJ1 (VS.si [0] 131007 (by kernel_rfl) (st (tights_lows (low_cAffidavitref04_Ring _)) rfl shh_nil)) ⟨false,(some y263),(some false),none,(some false),rfl,rfl,hF⟩)))))
def r14_tagged (a0 : Int) (a1 : Int) (a2 : List UInt8) (a3 : Arr 32) (a4 : Affidavitref04_Ring) : Option Bool :=
  (r04_Ring_Check (⟨a0,a1,a2⟩ : Affidavitref04_Line) a3 a4).bind fun y252=>some y252
theorem r14_tagged_ev {a0 : Int} {a1 : Int} {a2 : List UInt8} {a3 : Arr 32} {a4 : Affidavitref04_Ring} {r : Bool} (hF : r14_tagged a0 a1 a2 a3 a4=some r) : EvCall Tryz.prog T G0 65 [.ptr 0 0,.int .i64 a0,.int .i64 a1,.str a2,.agg ((cA .u8) a3)] [.cells (cAffidavitref04_Ring a4)] (fun v H'=>v=.bool r∧H'=[.cells (cAffidavitref04_Ring a4)]):=by
 refine xc Tryz.func65 ?_
 refine xq (wr 2 [.cells (cAffidavitref04_Ring a4),.cells ((cA .u8) a3)] (we (ng (xq (wh 6 (bind_elim hF (fun y252 hy252 hF=>uOs [0] [0] (v:=.bool y252) [.cells (cAffidavitref04_Ring a4)] (r04_Ring_Check_ev hy252) (tights_cons rfl (tights_cons (tight_agg (tights_lows (low_cAffidavitref04_Line _))) (tights_cons (tight_agg (tights_lows (low_cA _))) rfl))) (pl (b':=.cells (cAffidavitref04_Ring a4)) (by kernel_rfl) (sb_cells (by kernel_rfl) (by kernel_rfl) (tights_lows (low_cAffidavitref04_Ring _))) pl_nil) rfl (sbs (sb_cells (by kernel_rfl) (by kernel_rfl) (tights_lows (low_cAffidavitref04_Ring _))) sbs_nil) (wh 8 (we (ng (xt ?_)))))))))))
 cases hF
 exact fS [0] (.inl rfl) rfl (st (tights_lows (low_cAffidavitref04_Ring _)) rfl shh_nil) ⟨rfl,rfl⟩
def r09_Place_J4  : Option Int :=
  some (-1)
def r09_Place_J7 (k365 : Int→Option Int) (x365 : Int) : Option Int :=
  k365 (iAdd .i64 x365 1)
def r09_Place_B365 (a0 : List UInt8) (a1 : Int) (a2 : Int) (k365 : Int→Option Int) (x365 : Int) : Option Int :=
  if iLt x365 (a0.length : Int)=true then (idxB a0 x365).bind fun y378=>if (IntKind.wrap .i64 y378==a1)=true then (cutS a0 none (some (iAdd .i64 x365 1))).bind fun y379=>(r09_Count y379 a1).bind fun y380=>if (y380==a2)=true then some x365 else r09_Place_J7 k365 x365 else r09_Place_J7 k365 x365 else r09_Place_J4
def r09_Place (a0 : List UInt8) (a1 : Int) (a2 : Int) : Option Int :=
  loopN (r09_Place_B365 a0 a1 a2) FUEL 0
theorem r09_Place_ev {a0 : List UInt8} {a1 : Int} {a2 : Int} {r : Int} (hF : r09_Place a0 a1 a2=some r) : EvCall Tryz.prog T G0 113 [.str a0,.int .i64 a1,.int .i64 a2] [] (fun v H'=>v=.int .i64 r∧H'=[]):=by
 refine xc Tryz.func113 ?_
 refine xq (wh 1 (we (ng ?_)))
 refine xj (fun fr H=>∃ (g319 : Option Bool) (g320 : Option Bool) (g321 : Option Bool) (g322 : Option Bool),fr=[.any,.any,.any,.any,.any,.any,.any,.any,.any,.any,.any,.bool false,.any,.any,.any,.any,.any,.any,.any,junkB g319,junkB g320,.any,.any,.any,.any,.any,.any,.any,junkB g321,junkB g322,.any]∧H=[]∧r09_Place_J4=some r) (fun fr H ⟨g319,g320,g321,g322,e1,e2,hF⟩=>?_) (fun hJ4=>?_)
 ·subst e1 e2
  refine xq (wh 1 (we (ng (xt ?_))))
  cases hF
  exact fE [] (.inl rfl) rfl ⟨rfl,rfl⟩
 refine xq (wh 1 (we (ng (xb (x_loop (fun d fr H=>∃ (x365 : Int) (g339 : Option Bool) (g340 : Option Bool) (g341 : Option Bool) (g342 : Option Bool) (g343 : Option Bool),fr=[.str a0,.int .i64 a1,.int .i64 a2,.any,.any,.any,.any,.int .i64 x365,.any,.any,.any,junkB g339,.any,.any,.any,.any,.any,.any,.any,junkB g340,junkB g341,.any,.any,.any,.any,.any,.any,.any,junkB g342,junkB g343,.any]∧H=[]∧loopN (r09_Place_B365 a0 a1 a2) d x365=some r) (by kernel_rfl) (fun fr H ⟨x365,g339,g340,g341,g342,g343,e1,e2,hF⟩=>loop_no hF) (fun d365 fr H ⟨x365,g339,g340,g341,g342,g343,e1,e2,hF⟩=>?_) (VS.sm 2147483512) ⟨0,none,none,none,none,none,rfl,rfl,hF⟩)))))
 subst e1 e2
 have hF:=loop_in hF
 refine xs (xq (wh 4 (we (ng ?_))))
 refine ite_elim hF (fun hc1 hF=>?_) (fun hc1 hF=>?_)
 ·refine kT 11 hc1 (xT (xk (ng ?_)))
  refine xj (fun fr H=>∃ (g372 : Option Bool) (g373 : Option Bool) (g374 : Option Bool),fr=[.str a0,.int .i64 a1,.int .i64 a2,.any,.any,.any,.any,.int .i64 x365,.any,.any,.any,.bool true,.any,.any,.any,.any,.any,.any,.any,junkB g372,junkB g373,.any,.any,.any,.any,.any,.any,.any,junkB g374,.bool false,.any]∧H=[]∧r09_Place_J7 (loopN (r09_Place_B365 a0 a1 a2) d365) x365=some r) (fun fr H ⟨g372,g373,g374,e1,e2,hF⟩=>?_) (fun hJ7=>?_)
  ·subst e1 e2
   exact xr (wh 3 (we (then_n (x_back (VS.sm 1877475192) ⟨iAdd .i64 x365 1,(some true),g372,g373,g374,(some false),rfl,rfl,hF⟩))))
  refine xb (xq (wh 2 (bind_elim hF (fun y378 hy378 hF=>w_idx (by kernel_rfl) hy378 (wh 7 ?_)))))
  refine ite_elim hF (fun hc2 hF=>?_) (fun hc2 hF=>?_)
  ·refine wT 20 hc2 (wh 10 (bind_elim hF (fun y379 hy379 hF=>w_cut (by kernel_rfl) hy379 (wh 12 (bind_elim hF (fun y380 hy380 hF=>uC (r09_Count_ev hy380) (lows_cons rfl (lows_cons rfl rfl)) rfl (wh 16 (we (ng ?_)))))))))
   refine ite_elim hF (fun hc3 hF=>?_) (fun hc3 hF=>?_)
   ·refine kT 29 hc3 (xT (xq (wh 2 (we (ng (xt (block_r (then_r (then_r (block_r (then_r ?_)))))))))))
    cases hF
    exact fE [] (.inl rfl) rfl ⟨rfl,rfl⟩
   exact kF 29 hc3 (xF (xk (block_n (then_n (x_to hJ7 (VS.sm 1610610552) ⟨(some (IntKind.wrap .i64 y378==a1)),(some true),(some (y380==a2)),rfl,rfl,hF⟩)))))
  exact wF 20 hc2 (wh 16 (we (ng (xF (xk (block_n (then_n (x_to hJ7 (VS.sm 1610610552) ⟨(some (IntKind.wrap .i64 y378==a1)),(some false),none,rfl,rfl,hF⟩))))))))
 exact kF 11 hc1 (xF (xe (then_e (then_e (block_e (then_n (x_to hJ4 (VS.sm 1340602367) ⟨g340,g341,g342,g343,rfl,rfl,hF⟩)))))))
def r09_Upto (a0 : List UInt8) (a1 : Int) : Option (List UInt8) :=
  (r09_Count a0 a1).bind fun y260=>if (y260==0)=true then some [] else (r09_Place a0 a1 y260).bind fun y261=>(cutS a0 none (some (iAdd .i64 y261 1))).bind fun y262=>some y262
theorem r09_Upto_ev {a0 : List UInt8} {a1 : Int} {r : (List UInt8)} (hF : r09_Upto a0 a1=some r) : EvCall Tryz.prog T G0 66 [.str a0,.int .i64 a1] [] (fun v H'=>v=.str r∧H'=[]):=by
 refine xc Tryz.func66 ?_
 refine xq (wh 1 (we (ng (xq (wh 2 (bind_elim hF (fun y260 hy260 hF=>uC (r09_Count_ev hy260) (lows_cons rfl (lows_cons rfl rfl)) rfl (wh 4 (we (ng (xs (xq (wh 2 (we (ng ?_)))))))))))))))
 refine ite_elim hF (fun hc1 hF=>?_) (fun hc1 hF=>?_)
 ·refine kT 10 hc1 (xT (xq (wh 1 (we (ng (xt (then_r ?_)))))))
  cases hF
  exact fE [] (.inl rfl) rfl ⟨rfl,rfl⟩
 refine kF 10 hc1 (xF (xk (ng (xq (wh 4 (bind_elim hF (fun y261 hy261 hF=>uC (r09_Place_ev hy261) (lows_cons rfl (lows_cons rfl (lows_cons rfl rfl))) rfl (wh 6 (bind_elim hF (fun y262 hy262 hF=>w_cut (by kernel_rfl) hy262 (wh 8 (we (ng (xt ?_))))))))))))))
 cases hF
 exact fE [] (.inl rfl) rfl ⟨rfl,rfl⟩
def r14_add (a0 : List UInt8) (a1 : Int) : Option (List UInt8) :=
  (catS a0 (bytesS (⟨false,true,[IntKind.wrap .u8 a1]⟩ : Sl Int).l)).bind fun y274=>some y274
theorem r14_add_ev {a0 : List UInt8} {a1 : Int} {r : (List UInt8)} (hF : r14_add a0 a1=some r) : EvCall Tryz.prog T G0 59 [.str a0,.int .i64 a1] [] (fun v H'=>v=.str r∧H'=[]):=by
 refine xc Tryz.func59 ?_
 refine xq (wh 1 (we (ng (xq (wh 3 (w_frz (v:=sl (cI .u8) (⟨false,true,[IntKind.wrap .u8 a1]⟩ : Sl Int)) (by kernel_rfl) (w_str (l:=(⟨false,true,[IntKind.wrap .u8 a1]⟩ : Sl Int).l) (by kernel_rfl) (bind_elim hF (fun y274 hy274 hF=>w_cat (by kernel_rfl) hy274 (wh 7 (we (ng (xt ?_)))))))))))))
 cases hF
 exact fE [] (.inl rfl) rfl ⟨rfl,rfl⟩
def r14_Step_J1 (a0 : List UInt8) (a1 : Pending) : Option ((List UInt8)×Int) :=
  if iGe (a0.length : Int) 512=true then some ([],11) else (r14_add a0 a1.Client).bind fun y171=>some (y171,0)
def r14_Step (a0 : List UInt8) (a1 : Pending) (a2 : Affidavitref04_Ring) : Option ((List UInt8)×Int) :=
  (r14_is a1.Client a2).bind fun y146=>if y146=true then (r14_is a1.Target a2).bind fun y147=>if y147=true then if iLt a1.Number 1=true then some ([],2) else if iGt a1.Number 512=true then some ([],2) else if iLt a1.Kind 1=true then some ([],2) else if iGt a1.Kind 2=true then some ([],2) else (r09_Count a0 a1.Client).bind fun y151=>if (iAdd .i64 y151 1 != a1.Number)=true then some ([],8) else (r10_Ints (⟨false,true,[a1.Client,a1.Number,a1.Kind,a1.Target]⟩ : Sl Int)).bind fun y158=>(r14_tagged a1.Client 1 y158 a1.Asked a2).bind fun y159=>if y159=true then if iGt a1.Number 1=true then (r09_Upto a0 a1.Client).bind fun y178=>(r14_tagged a1.Client 3 y178 a1.Proof a2).bind fun y179=>if y179=true then r14_Step_J1 a0 a1 else some ([],7) else r14_Step_J1 a0 a1 else some ([],7) else some ([],2) else some ([],2)
theorem r14_Step_ev {a0 : List UInt8} {a1 : Pending} {a2 : Affidavitref04_Ring} {r : (List UInt8)×Int} (hF : r14_Step a0 a1 a2=some r) : EvCall Tryz.prog T G0 18 [.ptr 0 0,.str a0,.agg (cPending a1)] [.cells (cAffidavitref04_Ring a2)] (fun v H'=>v=.tup [.str r.1,.int .i64 r.2]∧H'=[.cells (cAffidavitref04_Ring a2)]):=by
 refine xc Tryz.func18 ?_
 refine xq (wr 3 [.cells (cAffidavitref04_Ring a2),.cells (cPending a1)] (we (ng (xs (xq (wh 3 (bind_elim hF (fun y146 hy146 hF=>uOs [0] [0] (v:=.bool y146) [.cells (cAffidavitref04_Ring a2)] (r14_is_ev hy146) (by kernel_rfl) (pl (b':=.cells (cAffidavitref04_Ring a2)) (by kernel_rfl) (sb_cells (by kernel_rfl) (by kernel_rfl) (tights_lows (low_cAffidavitref04_Ring _))) pl_nil) rfl (sbs (sb_cells (by kernel_rfl) (by kernel_rfl) (tights_lows (low_cAffidavitref04_Ring _))) sbs_nil) (wh 6 ?_)))))))))
 refine ite_elim hF (fun hc1 hF=>?_) (fun hc1 hF=>?_)
 ·refine wF 13 (show (!y146)=false by rw [hc1]; rfl) (wh 9 (bind_elim hF (fun y147 hy147 hF=>uOs [0] [0] (v:=.bool y147) [.cells (cAffidavitref04_Ring a2)] (r14_is_ev hy147) (by kernel_rfl) (pl (b':=.cells (cAffidavitref04_Ring a2)) (by kernel_rfl) (sb_cells (by kernel_rfl) (by kernel_rfl) (tights_lows (low_cAffidavitref04_Ring _))) pl_nil) rfl (sbs (sb_cells (by kernel_rfl) (by kernel_rfl) (tights_lows (low_cAffidavitref04_Ring _))) sbs_nil) (wh 13 ?_))))
  refine ite_elim hF (fun hc2 hF=>?_) (fun hc2 hF=>?_)
  ·refine wF 20 (show (!y147)=false by rw [hc2]; rfl) (wh 18 ?_)
   refine ite_elim hF (fun hc3 hF=>?_) (fun hc3 hF=>?_)
   ·refine wT 25 hc3 (wh 32 (we (ng (xT (xq (wh 2 (we (ng (xt (then_r ?_))))))))))
    cases hF
    exact fS [0] (.inl rfl) rfl (st (tights_lows (low_cAffidavitref04_Ring _)) rfl shh_nil) ⟨rfl,rfl⟩
   refine wF 25 hc3 (wh 23 ?_)
   refine ite_elim hF (fun hc4 hF=>?_) (fun hc4 hF=>?_)
   ·refine wT 30 hc4 (wh 32 (we (ng (xT (xq (wh 2 (we (ng (xt (then_r ?_))))))))))
    cases hF
    exact fS [0] (.inl rfl) rfl (st (tights_lows (low_cAffidavitref04_Ring _)) rfl shh_nil) ⟨rfl,rfl⟩
   refine wF 30 hc4 (wh 28 ?_)
   refine ite_elim hF (fun hc5 hF=>?_) (fun hc5 hF=>?_)
   ·refine wT 35 hc5 (wh 32 (we (ng (xT (xq (wh 2 (we (ng (xt (then_r ?_))))))))))
    cases hF
    exact fS [0] (.inl rfl) rfl (st (tights_lows (low_cAffidavitref04_Ring _)) rfl shh_nil) ⟨rfl,rfl⟩
   refine wF 35 hc5 (wh 32 (we (ng ?_)))
   refine ite_elim hF (fun hc6 hF=>?_) (fun hc6 hF=>?_)
   ·refine kT 39 hc6 (xT (xq (wh 2 (we (ng (xt (then_r ?_)))))))
    cases hF
    exact fS [0] (.inl rfl) rfl (st (tights_lows (low_cAffidavitref04_Ring _)) rfl shh_nil) ⟨rfl,rfl⟩
   refine kF 39 hc6 (xF (xk (ng (xs (xs (xd 0 call_ends callMono (wp 3 (bind_elim hF (fun y151 hy151 hF=>uC (r09_Count_ev hy151) (lows_cons rfl (lows_cons rfl rfl)) rfl (wp 8 (we (de (ng ?_)))))))))))))
   refine ite_elim hF (fun hc7 hF=>?_) (fun hc7 hF=>?_)
   ·refine kT 47 hc7 (xT (xq (wh 2 (we (ng (xt (then_r ?_)))))))
    cases hF
    exact fS [0] (.inl rfl) rfl (st (tights_lows (low_cAffidavitref04_Ring _)) rfl shh_nil) ⟨rfl,rfl⟩
   refine kF 47 hc7 (xF (xk (ng (xs (xs (xd 0 call_ends callMono (wp 11 (w_frz (v:=sl (cI .i64) (⟨false,true,[a1.Client,a1.Number,a1.Kind,a1.Target]⟩ : Sl Int)) (by kernel_rfl) (bind_elim hF (fun y158 hy158 hF=>uC (r10_Ints_ev hy158) (lows_cons (low_sl low_cI) rfl) rfl (wp 15 (bind_elim hF (fun y159 hy159 hF=>uOs [0] [0] (v:=.bool y159) [.cells (cAffidavitref04_Ring a2)] (r14_tagged_ev hy159) (tights_cons rfl (tights_cons rfl (tights_cons rfl (tights_cons rfl (tights_cons (tight_agg (tights_lows (low_cA _))) rfl))))) (pl (b':=.cells (cAffidavitref04_Ring a2)) (by kernel_rfl) (sb_cells (by kernel_rfl) (by kernel_rfl) (tights_lows (low_cAffidavitref04_Ring _))) pl_nil) rfl (sbs (sb_cells (by kernel_rfl) (by kernel_rfl) (tights_lows (low_cAffidavitref04_Ring _))) sbs_nil) (wp 17 (we (de (ng ?_)))))))))))))))))
   refine ite_elim hF (fun hc8 hF=>?_) (fun hc8 hF=>?_)
   ·refine kF 64 (show (!y159)=false by rw [hc8]; rfl) (xF (xk (ng ?_)))
    refine xj (fun fr H=>∃ (g168 : Option Bool) (g169 : Option Bool) (g170 : Option Bool),fr=[.any,.str a0,.any,.any,.any,.ptr 1 0,.any,.any,.any,.any,.any,.bool y146,.bool (!y146),.bool false,.any,.any,.any,.bool y147,.bool (!y147),.bool (!y147),.bool false,.any,.any,.bool (iLt a1.Number 1),.bool (iLt a1.Number 1),.bool false,.any,.any,.bool (iGt a1.Number 512),.bool (iGt a1.Number 512),.bool false,.any,.any,.bool (iLt a1.Kind 1),.bool (iLt a1.Kind 1),.bool false,.any,.any,.bool (iGt a1.Kind 2),.bool false,.any,.any,.any,.any,.any,.any,.any,.bool false,.any,.any,.any,.any,.any,.any,.any,.any,.any,.any,.any,.any,.any,.any,.any,.bool y159,.bool false,.any,.any,.bool (iGt a1.Number 1),junkB g168,.any,.any,.any,.any,.any,.any,.any,.any,.any,junkB g169,junkB g170,.bool false,.any,.any,.any,.any,.any,.any,.any]∧H=[.cells (cAffidavitref04_Ring a2),.cells (cPending a1)]∧r14_Step_J1 a0 a1=some r) (fun fr H ⟨g168,g169,g170,e1,e2,hF⟩=>?_) (fun hJ1=>?_)
    ·subst e1 e2
     refine xs (xq (wh 3 (we (ng ?_))))
     refine ite_elim hF (fun hc9 hF=>?_) (fun hc9 hF=>?_)
     ·refine kT 83 hc9 (xT (xq (wh 2 (we (ng (xt (then_r ?_)))))))
      cases hF
      exact fS [0] (.inl rfl) rfl (st (tights_lows (low_cAffidavitref04_Ring _)) rfl shh_nil) ⟨rfl,rfl⟩
     refine kF 83 hc9 (xF (xk (ng (xq (wh 3 (bind_elim hF (fun y171 hy171 hF=>uC (r14_add_ev hy171) (lows_cons rfl (lows_cons rfl rfl)) rfl (wh 6 (we (ng (xt ?_)))))))))))
     cases hF
     exact fS [0] (.inl rfl) rfl (st (tights_lows (low_cAffidavitref04_Ring _)) rfl shh_nil) ⟨rfl,rfl⟩
    refine xs (xd 0 call_ends callMono (wp 4 ?_))
    refine ite_elim hF (fun hc10 hF=>?_) (fun hc10 hF=>?_)
    ·refine wT 68 hc10 (wp 10 (bind_elim hF (fun y178 hy178 hF=>uC (r09_Upto_ev hy178) (lows_cons rfl (lows_cons rfl rfl)) rfl (wp 13 (bind_elim hF (fun y179 hy179 hF=>uOs [0] [0] (v:=.bool y179) [.cells (cAffidavitref04_Ring a2)] (r14_tagged_ev hy179) (tights_cons rfl (tights_cons rfl (tights_cons rfl (tights_cons rfl (tights_cons (tight_agg (tights_lows (low_cA _))) rfl))))) (pl (b':=.cells (cAffidavitref04_Ring a2)) (by kernel_rfl) (sb_cells (by kernel_rfl) (by kernel_rfl) (tights_lows (low_cAffidavitref04_Ring _))) pl_nil) rfl (sbs (sb_cells (by kernel_rfl) (by kernel_rfl) (tights_lows (low_cAffidavitref04_Ring _))) sbs_nil) (wp 16 (we (de (ng ?_))))))))))
     refine ite_elim hF (fun hc11 hF=>?_) (fun hc11 hF=>?_)
     ·exact kF 80 (show (!y179)=false by rw [hc11]; rfl) (xF (xk (then_n (x_to hJ1 (VS.sm 308275908757520115117967325) ⟨(some true),(some y179),(some (!y179)),rfl,rfl,hF⟩))))
     refine kT 80 (show (!y179)=true by rw [hc11]; rfl) (xT (xq (wh 2 (we (ng (xt (then_r ?_)))))))
     cases hF
     exact fS [0] (.inl rfl) rfl (st (tights_lows (low_cAffidavitref04_Ring _)) rfl shh_nil) ⟨rfl,rfl⟩
    exact wF 68 hc10 (wp 16 (we (de (ng (xF (xk (then_n (x_to hJ1 (VS.sm 308275908757520115117967325) ⟨(some false),none,none,rfl,rfl,hF⟩))))))))
   refine kT 64 (show (!y159)=true by rw [hc8]; rfl) (xT (xq (wh 2 (we (ng (xt (then_r ?_)))))))
   cases hF
   exact fS [0] (.inl rfl) rfl (st (tights_lows (low_cAffidavitref04_Ring _)) rfl shh_nil) ⟨rfl,rfl⟩
  refine wT 20 (show (!y147)=true by rw [hc2]; rfl) (wh 32 (we (ng (xT (xq (wh 2 (we (ng (xt (then_r ?_))))))))))
  cases hF
  exact fS [0] (.inl rfl) rfl (st (tights_lows (low_cAffidavitref04_Ring _)) rfl shh_nil) ⟨rfl,rfl⟩
 refine wT 13 (show (!y146)=true by rw [hc1]; rfl) (wh 32 (we (ng (xT (xq (wh 2 (we (ng (xt (then_r ?_))))))))))
 cases hF
 exact fS [0] (.inl rfl) rfl (st (tights_lows (low_cAffidavitref04_Ring _)) rfl shh_nil) ⟨rfl,rfl⟩
end Go.Proofs.YthejafdkimbddaaGreatDoor
