/- Checks: what may be; histories; what goes on what. Steps, by both. Checks: which messages may be; laying them never fails. Checks: the parts of a check, by both. Checks: program and reference come to the same. -/
import Derived.Test.YthejafdkimbddaaGreatDoorMathM
import Derived.Test.YthejafdkimbddaaGreatDoorDecC
namespace Go.Proofs.YthejafdkimbddaaGreatDoor
open Go.Abs
theorem incL {i n : Nat} (h : i < n) (hn : n≤9223372036854775807) : iAdd .i64 (i : Int) 1=((i+1 : Nat) : Int):=by
 simp [iAdd,IntKind.wrap,IntKind.bits,IntKind.signed]; omega
def inB (lo hi x : Int) : Bool:=decide (lo≤x)&&decide (x≤hi)
theorem inB_iff {lo hi x : Int} : inB lo hi x=true↔lo≤x∧x≤hi:=by simp [inB]
theorem within_eq (x lo hi : Int) : msg_within x lo hi=some (inB lo hi x):=by
 unfold msg_within msg_within_J1 inB
 rw [geB,leB]
 by_cases h : lo≤x<;>simp [h]
theorem r10_within_eq (x lo hi : Int) : r10_within x lo hi=some (inB lo hi x):=by
 unfold r10_within r10_within_J1 inB
 rw [geB,leB]
 by_cases h : lo≤x<;>simp [h]
theorem number_in (x : Int) : msg_number x=some (inB 1 512 x):=by unfold msg_number; rw [within_eq,Option.bind_some]
theorem client_in (x : Int) : msg_client x=some (inB 0 7 x):=by unfold msg_client; rw [within_eq,Option.bind_some]
theorem kind_in (x : Int) : msg_kind x=some (inB 1 2 x):=by
 unfold msg_kind msg_kind_J1 inB
 by_cases h : x=1
 ·subst h; rfl
 ·by_cases h2 : x=2
  ·subst h2; rfl
  ·rw [if_neg (by simp [h])]
   have : ¬ (1≤x∧x≤2):=by omega
   have e : (x==2)=false:=by simp [h2]
   rw [e]
   simp only [Option.some.injEq]
   simp
   omega
def submitB (x : Submit) : Bool:=inB 1 512 x.Number&&(inB 1 2 x.Kind&&(inB 0 7 x.Target&&decide (x.Value.length≤256)))
theorem len_le (s : List UInt8) (n : Nat) : iLe (s.length : Int) (n : Int)=decide (s.length≤n):=by rw [leB,decide_eq_decide]; omega
theorem submit_eq (x : Submit) : msg_submit x=some (submitB x):=by
 unfold msg_submit msg_submit_J1 submitB
 have e : iLe (x.Value.length : Int) 256=decide (x.Value.length≤256):=len_le _ 256
 rw [number_in,Option.bind_some,kind_in,Option.bind_some,client_in,Option.bind_some,e]
 cases inB 1 512 x.Number<;>cases inB 1 2 x.Kind<;>cases inB 0 7 x.Target<;>rfl
theorem asks_eq (n k t : Int) : r10_asks n k t=some (inB 1 512 n&&(inB 1 2 k&&inB 0 7 t)):=by
 unfold r10_asks r10_asks_J1
 rw [r10_within_eq,Option.bind_some,r10_within_eq,Option.bind_some,r10_within_eq,Option.bind_some]
 cases inB 1 512 n<;>cases inB 1 2 k<;>cases inB 0 7 t<;>rfl
def rightB (h : List UInt8) (n : Int) : Bool:=decide (1≤n)&&(decide (n≤256)&&(decide (h.length≤512)&&h.all fun b=>decide ((b.toNat : Int) < n)))
theorem right_bad {h : List UInt8} {n : Int} {k : Nat} (hk : k < h.length) (hb : ¬ (h[k].toNat : Int) < n) : rightB h n=false:=by
 have : (h.all fun b=>decide ((b.toNat : Int) < n))=false:=List.all_eq_false.2 ⟨h[k],List.getElem_mem hk,by simp only [decide_eq_true_eq]; exact hb⟩
 unfold rightB
 rw [this]
 simp
theorem right_good {h : List UInt8} {n : Int} (ha : ∀ b∈h,(b.toNat : Int) < n) : rightB h n=(decide (1≤n)&&(decide (n≤256)&&decide (h.length≤512))):=by
 have : (h.all fun b=>decide ((b.toNat : Int) < n))=true:=List.all_eq_true.2 fun b hb=>by simp only [decide_eq_true_eq]; exact ha b hb
 unfold rightB
 rw [this]
 simp
theorem right_le {h : List UInt8} {n : Int} (hr : rightB h n=true) : h.length≤512:=by
 simp only [rightB,Bool.and_eq_true,decide_eq_true_eq] at hr
 exact hr.2.2.1
theorem right_eq (h : List UInt8) (n : Int) (hl : h.length≤9223372036854775807) : hist_Right h n=some (rightB h n):=by
 unfold hist_Right
 refine loop_ex (fun z : Int=>∃ k : Nat,k≤h.length∧z=k∧∀ b∈h.take k,(b.toNat : Int) < n) (fun o=>o=some (rightB h n)) (fun z=>((h.length : Int) - z).toNat) (fun z hz=>?_) _ ⟨0,by omega,rfl,by simp⟩ (by simp; omega)
 obtain ⟨k,hk,rfl,ha⟩:=hz
 by_cases hlt : k < h.length
 ·by_cases hb : (h[k].toNat : Int) < n
  ·left
   refine ⟨((k+1 : Nat) : Int),⟨k+1,by omega,rfl,fun b hb'=>?_⟩,by omega,fun kk=>?_⟩
   ·rw [List.take_succ_eq_append_getElem hlt,List.mem_append] at hb'
    rcases hb' with hb'|hb'
    ·exact ha b hb'
    ·rw [List.mem_singleton.1 hb']; exact hb
   ·unfold hist_Right_B185
    rw [if_pos (by rw [ltB]; simp; omega),idxB_in hlt,Option.bind_some,wrapB,if_neg (by rw [geB]; simp; omega),incL hlt (by omega)]
  ·right
   refine ⟨_,rfl,fun kk=>?_⟩
   unfold hist_Right_B185
   rw [if_pos (by rw [ltB]; simp; omega),idxB_in hlt,Option.bind_some,wrapB,if_pos (by rw [geB]; simp; omega),right_bad hlt hb]
 ·right
  have hk2 : k=h.length:=by omega
  subst hk2
  rw [List.take_length] at ha
  refine ⟨_,rfl,fun kk=>?_⟩
  unfold hist_Right_B185
  rw [if_neg (by rw [ltB]; simp),right_good ha]
  unfold hist_Right_J1 hist_Right_J2
  have e : iLe (h.length : Int) 512=decide (h.length≤512):=len_le _ 512
  rw [e,geB,leB]
  by_cases h1 : h.length≤512<;>by_cases h2 : 1≤n<;>by_cases h3 : n≤256<;>simp [h1,h2,h3]
theorem r09_right_eq (h : List UInt8) (n : Int) : r09_Right h n=some (rightB h n):=by
 unfold r09_Right
 rw [ltB,gtB,gtB]
 by_cases h1 : 1≤n
 ·rw [if_neg (by simp; omega)]
  by_cases h2 : n≤256
  ·rw [if_neg (by simp; omega)]
   by_cases h3 : h.length≤512
   ·rw [if_neg (by simp; omega)]
    have hs : iSub .i64 n 1=n - 1:=subw (by omega) (by omega)
    refine loop_ex (fun z : Int=>∃ k : Nat,k≤h.length∧z=k∧∀ b∈h.take k,(b.toNat : Int) < n) (fun o=>o=some (rightB h n)) (fun z=>((h.length : Int) - z).toNat) (fun z hz=>?_) _ ⟨0,by omega,rfl,by simp⟩ (by simp; omega)
    obtain ⟨k,hk,rfl,ha⟩:=hz
    by_cases hlt : k < h.length
    ·by_cases hb : (h[k].toNat : Int) < n
     ·left
      refine ⟨((k+1 : Nat) : Int),⟨k+1,by omega,rfl,fun b hb'=>?_⟩,by omega,fun kk=>?_⟩
      ·rw [List.take_succ_eq_append_getElem hlt,List.mem_append] at hb'
       rcases hb' with hb'|hb'
       ·exact ha b hb'
       ·rw [List.mem_singleton.1 hb']; exact hb
      ·unfold r09_Right_B288
       rw [if_pos (by rw [ltB]; simp; omega),idxB_in hlt,Option.bind_some,wrapB,hs,if_neg (by rw [gtB]; simp; omega),incL hlt (by omega)]
     ·right
      refine ⟨_,rfl,fun kk=>?_⟩
      unfold r09_Right_B288
      rw [if_pos (by rw [ltB]; simp; omega),idxB_in hlt,Option.bind_some,wrapB,hs,if_pos (by rw [gtB]; simp; omega),right_bad hlt hb]
    ·right
     have hk2 : k=h.length:=by omega
     subst hk2
     rw [List.take_length] at ha
     refine ⟨_,rfl,fun kk=>?_⟩
     unfold r09_Right_B288
     rw [if_neg (by rw [ltB]; simp),right_good ha]
     simp [r09_Right_J1,h1,h2,h3]
   ·rw [if_pos (by simp; omega)]
    simp [rightB,h3]
  ·rw [if_pos (by simp; omega)]
   simp [rightB,h2]
 ·rw [if_pos (by simp; omega)]
  simp [rightB,h1]
def goesB (a b : List UInt8) : Bool:=decide (b.length≤a.length)&&(a.take b.length==b)
theorem goes_eq (a b : List UInt8) : hist_Goes a b=some (goesB a b):=by
 unfold hist_Goes strings_HasPrefix internal_stringslite_HasPrefix internal_stringslite_HasPrefix_J1 goesB
 rw [geB]
 by_cases h : b.length≤a.length
 ·rw [if_pos (by simp; omega),cutS_to h,Option.bind_some,Option.bind_some,Option.bind_some]
  simp [h]
 ·rw [if_neg (by simp; omega),Option.bind_some,Option.bind_some]
  simp [h]
theorem r09_goes_eq (a b : List UInt8) (hl : b.length≤9223372036854775807) : r09_Goes a b=some (goesB a b):=by
 unfold r09_Goes
 rw [gtB]
 by_cases h : b.length≤a.length
 ·rw [if_neg (by simp; omega)]
  refine loop_ex (fun z : Int=>∃ k : Nat,k≤b.length∧z=k∧a.take k=b.take k) (fun o=>o=some (goesB a b)) (fun z=>((b.length : Int) - z).toNat) (fun z hz=>?_) _ ⟨0,by omega,rfl,by simp⟩ (by simp; omega)
  obtain ⟨k,hk,rfl,ha⟩:=hz
  by_cases hlt : k < b.length
  ·have hka : k < a.length:=by omega
   by_cases he : a[k]=b[k]
   ·left
    refine ⟨((k+1 : Nat) : Int),⟨k+1,by omega,rfl,?_⟩,by omega,fun kk=>?_⟩
    ·rw [List.take_succ_eq_append_getElem hlt,List.take_succ_eq_append_getElem hka,ha,he]
    ·unfold r09_Goes_B319
     rw [if_pos (by rw [ltB]; simp; omega),idxB_in hka,Option.bind_some,idxB_in hlt,Option.bind_some,he,if_neg (by simp),incL hlt (by omega)]
   ·right
    refine ⟨_,rfl,fun kk=>?_⟩
    have hn : ¬ ((a[k].toNat : Int)=(b[k].toNat : Int)):=fun e=>he (UInt8.toNat_inj.1 (by omega))
    unfold r09_Goes_B319
    rw [if_pos (by rw [ltB]; simp; omega),idxB_in hka,Option.bind_some,idxB_in hlt,Option.bind_some,if_pos (by simp only [bne_iff_ne,ne_eq]; exact hn)]
    unfold goesB
    have : (a.take b.length==b)=false:=by
     rw [beq_eq_false_iff_ne]
     intro e
     have e2:=congrArg (fun l=>l[k]?) e
     simp only [List.getElem?_take,if_pos hlt,List.getElem?_eq_getElem hka,List.getElem?_eq_getElem hlt,Option.some.injEq] at e2
     exact he e2
    rw [this]
    simp
  ·right
   have hk2 : k=b.length:=by omega
   subst hk2
   refine ⟨_,rfl,fun kk=>?_⟩
   unfold r09_Goes_B319 r09_Goes_J1
   rw [if_neg (by rw [ltB]; simp)]
   rw [List.take_length] at ha
   simp [goesB,h,ha]
 ·rw [if_pos (by simp; omega)]
  simp [goesB,h]
theorem eqAll_refl {α : Type} (f : α→Bool) (h : ∀ a,f a=true) : ∀ l : List α,eqAll f l=true
 | []=>rfl
 | a::r=>by unfold eqAll; rw [h a,eqAll_refl f h r]; rfl
theorem eqA_refl {n : Nat} (a : Arr n) : eqA a a=true:=by
 unfold eqA
 exact eqAll_refl _ (fun i=>by simp) _
theorem eqPending_refl (p : Pending) : eqPending p p=true:=by simp [eqPending,eqA_refl]
theorem eqSubmit_refl (p : Submit) : eqSubmit p p=true:=by simp [eqSubmit,eqA_refl]
theorem eqBlob_refl (p : Blob) : eqBlob p p=true:=by simp [eqBlob,eqA_refl]
theorem pend_same (p : Sl Pending) (hp : p.l.length < 4611686018427387904) : slices_Equal_api_Pending_api_Pending p p=some true:=by
 unfold slices_Equal_api_Pending_api_Pending
 rw [if_neg (by simp)]
 have e0 : (0 : Int)=((0 : Nat) : Int):=rfl
 rw [e0]
 refine loop_cnt (fun i : Nat=>(i : Int)) 0 p.l.length (by omega) (by omega) _ (fun k i _ hi=>?_) (fun k=>?_)
 ·unfold slices_Equal_api_Pending_api_Pending_B178
  rw [if_pos (by rw [ltB]; simp; omega),idx_in hi,Option.bind_some,Option.bind_some,if_pos (eqPending_refl _),incL hi (by omega)]
 ·unfold slices_Equal_api_Pending_api_Pending_B178
  rw [if_neg (by rw [ltB]; simp)]
  rfl
theorem int_same (p : Sl Int) (hp : p.l.length < 4611686018427387904) : slices_Equal_int_int p p=some true:=by
 unfold slices_Equal_int_int
 rw [if_neg (by simp)]
 have e0 : (0 : Int)=((0 : Nat) : Int):=rfl
 rw [e0]
 refine loop_cnt (fun i : Nat=>(i : Int)) 0 p.l.length (by omega) (by omega) _ (fun k i _ hi=>?_) (fun k=>?_)
 ·unfold slices_Equal_int_int_B114
  rw [if_pos (by rw [ltB]; simp; omega),idx_in hi,Option.bind_some,Option.bind_some,if_neg (by simp),incL hi (by omega)]
 ·unfold slices_Equal_int_int_B114
  rw [if_neg (by rw [ltB]; simp)]
  rfl
theorem reply_same (r : Reply) (hp : r.Pending.l.length < 4611686018427387904) : msg_sameReply r r=some true:=by
 unfold msg_sameReply
 rw [if_pos (by simp),if_pos (by simp),if_pos (by simp),if_pos (eqA_refl _),pend_same _ hp,Option.bind_some]
 unfold msg_sameReply_J1 msg_sameReply_J2
 rw [if_pos rfl,if_pos (by simp),if_pos (by simp),if_pos (eqA_refl _),if_pos (by simp),eqA_refl]
theorem msg_same (m : Msg) (hp : m.Reply.Pending.l.length < 4611686018427387904) (hn : m.Numbers.l.length < 4611686018427387904) : msg_Same m m=some true:=by
 unfold msg_Same
 rw [if_pos (by simp),if_pos (by simp),if_pos (eqSubmit_refl _),if_pos (by simp),if_pos (by simp),if_pos (eqA_refl _),eqA_refl]
 unfold msg_Same_J1 msg_Same_J2
 rw [if_pos rfl,if_pos (eqBlob_refl _),int_same _ hn,Option.bind_some,if_pos rfl,reply_same _ hp,Option.bind_some]
theorem r01_same (p : Sl Int) (hp : p.l.length < 4611686018427387904) : r01_Ints p p=some true:=by
 unfold r01_Ints
 rw [if_neg (by simp)]
 have e0 : (0 : Int)=((0 : Nat) : Int):=rfl
 rw [e0]
 refine loop_cnt (fun i : Nat=>(i : Int)) 0 p.l.length (by omega) (by omega) _ (fun k i _ hi=>?_) (fun k=>?_)
 ·unfold r01_Ints_B262
  rw [if_pos (by rw [ltB]; simp; omega),idx_in hi,Option.bind_some,Option.bind_some,if_neg (by simp),incL hi (by omega)]
 ·unfold r01_Ints_B262
  rw [if_neg (by rw [ltB]; simp)]
  rfl
theorem r10_reply_same (r : Reply) (hp : r.Pending.l.length < 4611686018427387904) : r10_SameReply r r=some true:=by
 unfold r10_SameReply
 rw [if_neg (by simp),if_neg (by simp),if_pos (by simp),if_pos (eqA_refl _),if_neg (by simp)]
 have e0 : (0 : Int)=((0 : Nat) : Int):=rfl
 rw [e0]
 refine loop_cnt (fun i : Nat=>(i : Int)) 0 r.Pending.l.length (by omega) (by omega) _ (fun k i _ hi=>?_) (fun k=>?_)
 ·unfold r10_SameReply_B198
  rw [if_pos (by rw [ltB]; simp; omega),idx_in hi,Option.bind_some,Option.bind_some,if_pos (eqPending_refl _),incL hi (by omega)]
 ·unfold r10_SameReply_B198
  rw [if_neg (by rw [ltB]; simp)]
  unfold r10_SameReply_J1 r10_SameReply_J2
  rw [if_pos (by simp),if_pos (by simp),if_pos (eqA_refl _),if_pos (by simp),eqA_refl]
theorem r10_same (m : Msg) (hp : m.Reply.Pending.l.length < 4611686018427387904) (hn : m.Numbers.l.length < 4611686018427387904) : r10_Same m m=some true:=by
 unfold r10_Same r10_Same_J1
 rw [if_pos (by simp),if_pos (by simp),if_pos (eqSubmit_refl _),r10_reply_same _ hp,Option.bind_some,if_pos rfl,if_pos (by simp),if_pos (by simp),if_pos (eqA_refl _),if_pos (eqA_refl _),if_pos (eqBlob_refl _),r01_same _ hn,Option.bind_some]
end Go.Proofs.YthejafdkimbddaaGreatDoor
namespace Go.Proofs.YthejafdkimbddaaGreatDoor
open Go.Abs
theorem is_eq (c : Int) (s : List UInt8) (m : Mp Ring_tagged Int) : verify_is c s ringK m=some (decide (0≤c)&&decide (c < 3)):=by
 unfold verify_is ring_Ring_Clients verify_is_J1
 have hl : ((ringK.l.length : Nat) : Int)=3:=rfl
 rw [Option.bind_some,hl,geB,ltB]
 by_cases h : 0≤c<;>simp [h]
theorem r14_is_eq (c : Int) (b : Sl Affidavitref04_Line) : r14_is c (ringR b)=some (decide (0≤c)&&decide (c < 3)):=by
 unfold r14_is r14_is_J1
 have hl : (ringR b).N=3:=rfl
 rw [hl,geB,ltB]
 by_cases h : 0≤c<;>simp [h]
theorem holds_eq (c d : Int) (t : List UInt8) (g : Arr 32) (s : List UInt8) (m : Mp Ring_tagged Int) : verify_holds ⟨c,d,t,g⟩ s ringK m=some (isTag c d t g):=by
 unfold verify_holds
 rw [check_eq,Option.bind_some]
theorem tagged_eq (c d : Int) (t : List UInt8) (g : Arr 32) (b : Sl Affidavitref04_Line) : r14_tagged c d t g (ringR b)=some (isTag c d t g):=by
 unfold r14_tagged
 rw [r04_check_eq,Option.bind_some]
theorem step_eq (d : List UInt8) (p : Pending) (hd : d.length < 1000000) (s : List UInt8) (m : Mp Ring_tagged Int) (b : Sl Affidavitref04_Line) : ∃ r,verify_Step d p s ringK m=some r∧r14_Step d p (ringR b)=some r∧r.1.length≤d.length+1:=by
 unfold verify_Step r14_Step
 rw [is_eq,is_eq,r14_is_eq,r14_is_eq,Option.bind_some,Option.bind_some,Option.bind_some,Option.bind_some]
 by_cases hc : (decide (0≤p.Client)&&decide (p.Client < 3))=true
 case neg=>rw [if_neg hc,if_neg hc]; exact ⟨_,rfl,rfl,by simp [bytesS]⟩
 rw [if_pos hc,if_pos hc]
 by_cases ht : (decide (0≤p.Target)&&decide (p.Target < 3))=true
 case neg=>rw [if_neg ht,if_neg ht]; exact ⟨_,rfl,rfl,by simp [bytesS]⟩
 rw [if_pos ht,if_pos ht]
 by_cases hn1 : iLt p.Number 1=true
 ·rw [if_pos hn1,if_pos hn1]; exact ⟨_,rfl,rfl,by simp [bytesS]⟩
 rw [if_neg hn1,if_neg hn1]
 by_cases hn2 : iGt p.Number 512=true
 ·rw [if_pos hn2,if_pos hn2]; exact ⟨_,rfl,rfl,by simp [bytesS]⟩
 rw [if_neg hn2,if_neg hn2]
 rw [ltB] at hn1
 rw [gtB] at hn2
 simp only [Bool.and_eq_true,decide_eq_true_eq] at hc ht hn1 hn2
 by_cases hk : p.Kind=1∨p.Kind=2
 case neg =>
  refine ⟨([],2),?_,?_,by simp⟩
  ·rw [if_pos (by simp; omega),if_pos (by simp; omega)]
  ·by_cases h : p.Kind < 1
   ·rw [if_pos (by rw [ltB]; simp; omega)]
   ·rw [if_neg (by rw [ltB]; simp; omega),if_pos (by rw [gtB]; simp; omega)]
 have hJ : ∃ r,verify_Step_J1 d p s ringK m=some r∧((r09_Count d p.Client).bind fun y151=>if (iAdd .i64 y151 1 != p.Number)=true then some ([],8) else (r10_Ints (⟨false,true,[p.Client,p.Number,p.Kind,p.Target]⟩ : Sl Int)).bind fun y158=>(r14_tagged p.Client 1 y158 p.Asked (ringR b)).bind fun y159=>if y159=true then if iGt p.Number 1=true then (r09_Upto d p.Client).bind fun y178=>(r14_tagged p.Client 3 y178 p.Proof (ringR b)).bind fun y179=>if y179=true then r14_Step_J1 d p else some ([],7) else r14_Step_J1 d p else some ([],7))=some r∧r.1.length≤d.length+1:=by
  unfold verify_Step_J1
  have hnum : ∀ n∈[p.Client,p.Number,p.Kind,p.Target],numOkI n:=fun n hn=>by
   simp only [List.mem_cons,List.not_mem_nil,or_false] at hn
   rcases hn with rfl|rfl|rfl|rfl<;>constructor<;>omega
  rw [asked_eq p.Client ⟨p.Number,p.Kind,p.Target,[],Arr.zero 32,Arr.zero 32⟩ hnum,Option.bind_some,count_eq (by omega),Option.bind_some,r09_count_eq (by omega),Option.bind_some,r10_ints_eq _ (by simp) hnum,Option.bind_some,holds_eq,Option.bind_some,tagged_eq,Option.bind_some]
  have hcl:=cntI_le d p.Client
  rw [add1 (by omega) (by omega)]
  by_cases hN : p.Number=(cntI d p.Client : Int)+1
  case neg =>
   have q1 : (p.Number != (cntI d p.Client : Int)+1)=true:=by simp; omega
   have q2 : ((cntI d p.Client : Int)+1 != p.Number)=true:=by simp; omega
   rw [if_pos q1,if_pos q2]; exact ⟨_,rfl,rfl,by simp [bytesS]⟩
  have q1 : ¬ (p.Number != (cntI d p.Client : Int)+1)=true:=by simp; omega
  have q2 : ¬ ((cntI d p.Client : Int)+1 != p.Number)=true:=by simp; omega
  rw [if_neg q1,if_neg q2]
  have hend : ∃ r,(if iGe (d.length : Int) 512=true then some ([],11) else verify_Step_J2 d p)=some r∧r14_Step_J1 d p=some r∧r.1.length≤d.length+1:=by
   unfold r14_Step_J1 verify_Step_J2 r14_add
   by_cases h : iGe (d.length : Int) 512=true
   ·rw [if_pos h,if_pos h]; exact ⟨_,rfl,rfl,by simp [bytesS]⟩
   ·rw [if_neg h,if_neg h,catS_in (by simp [bytesS]; omega)]
    exact ⟨_,rfl,rfl,by simp [bytesS]⟩
  simp only
  by_cases h1 : isTag p.Client 1 (numsB [p.Client,p.Number,p.Kind,p.Target]) p.Asked=true
  case neg=>rw [if_neg h1,if_neg h1]; exact ⟨_,rfl,rfl,by simp [bytesS]⟩
  rw [if_pos h1,if_pos h1]
  by_cases h2 : iGt p.Number 1=true
  case neg=>rw [if_neg h2,if_neg h2]; exact hend
  rw [if_pos h2,if_pos h2]
  obtain ⟨o,ho⟩:=upto_ex d p.Client
  rw [upto_eq ho (by omega),Option.bind_some,r09_upto_eq ho (by omega),Option.bind_some,holds_eq,Option.bind_some,tagged_eq,Option.bind_some]
  by_cases h3 : isTag p.Client 3 o p.Proof=true
  case neg=>rw [if_neg h3,if_neg h3]; exact ⟨_,rfl,rfl,by simp [bytesS]⟩
  rw [if_pos h3,if_pos h3]
  exact hend
 obtain ⟨r,e1,e2,e3⟩:=hJ
 have k1 : ¬ iLt p.Kind 1=true:=by rw [ltB]; simp; omega
 have k2 : ¬ iGt p.Kind 2=true:=by rw [gtB]; simp; omega
 rw [if_neg k1,if_neg k2,e2]
 refine ⟨r,?_,rfl,e3⟩
 rcases hk with hk|hk
 ·rw [if_neg (by simp [hk]),e1]
 ·rw [if_pos (by simp [hk]),if_neg (by simp [hk]),e1]
end Go.Proofs.YthejafdkimbddaaGreatDoor
namespace Go.Proofs.YthejafdkimbddaaGreatDoor
open Go.Abs
theorem num_ex {n : Int} (h : numOkI n∨n=-1) : ∃ w,lay_Number n=some w∧w.length≤21:=by
 rcases h with h|rfl
 ·exact ⟨_,number_eq h,numB_len h⟩
 ·unfold lay_Number lay_digits
  rw [if_pos (by rw [ltB]; simp)]
  obtain ⟨y,g,b,e1,e2⟩:=digits_eq false [45] (by simp) FUEL 1 (by unfold FUEL; omega) (by omega)
  have hw : iNeg .u64 (IntKind.wrap .u64 (-1))=((1 : Nat) : Int):=by decide
  have hd:=decD_20 (n:=1) (by omega)
  rw [decD_small (by omega)] at e2
  have hl : y.l.length=2:=by rw [e2]; rfl
  rw [hw,e1,Option.bind_some]
  simp only
  rw [appL_1 (by rw [hl]; simp),Option.bind_some]
  exact ⟨_,rfl,by simp [bytesS,hl]⟩
theorem ints_ex (x a : Sl Int) (hx : x.l.length < 1000) (hn : ∀ n∈x.l,numOkI n∨n=-1) (ha : a.l.length < 1000000) : ∃ y,msg_writer_ints x a=some y∧y.l.length≤a.l.length+21 * x.l.length:=by
 unfold msg_writer_ints
 refine loop_ex (fun z : Sl Int×Int=>∃ i : Nat,i≤x.l.length∧z.2=i∧z.1.l.length≤a.l.length+21 * i) (fun o=>∃ y : Sl Int,o=some y∧y.l.length≤a.l.length+21 * x.l.length) (fun z=>((x.l.length : Int) - z.2).toNat) (fun z hz=>?_) _ ⟨0,by omega,rfl,by simp⟩ (by simp; omega)
 obtain ⟨y,i⟩:=z
 obtain ⟨n,hn1,hi,hy⟩:=hz
 simp only at hi hy ⊢
 subst hi
 by_cases hnl : n=x.l.length
 ·right
  refine ⟨some y,⟨y,rfl,by rw [hnl] at hy; exact hy⟩,fun k=>?_⟩
  unfold msg_writer_ints_B144
  rw [if_neg (by rw [ltB]; simp; omega)]
 ·left
  have hlt : n < x.l.length:=by omega
  obtain ⟨w,e1,e2⟩:=num_ex (hn _ (List.getElem_mem hlt))
  refine ⟨(⟨y.nl&&(intsS w).length==0,false,y.l++intsS w⟩,((n+1 : Nat) : Int)),⟨n+1,by omega,rfl,?_⟩,by simp only; omega,fun k=>?_⟩
  ·simp only [List.length_append,intsS_len]
   omega
  ·unfold msg_writer_ints_B144
   rw [if_pos (by rw [ltB]; simp; omega)]
   simp only
   rw [idx_in hlt,Option.bind_some,e1,Option.bind_some,appL_1 (by rw [intsS_len]; omega),Option.bind_some,incL hlt (by omega)]
theorem text_ex (s : List UInt8) (a : Sl Int) (hs : s.length≤16384) (ha : a.l.length < 100000000) : ∃ y,msg_writer_text s a=some y∧y.l.length≤a.l.length+17000∧y.l=a.l++intsS (textB s):=by
 have hl:=textB_len hs
 unfold msg_writer_text
 rw [text_eq hs,Option.bind_some]
 simp only
 rw [appL_1 (by rw [intsS_len]; omega),Option.bind_some]
 exact ⟨_,rfl,by simp only [List.length_append,intsS_len]; omega,rfl⟩
theorem digs_ex (x : Sl (Arr 32)) (a : Sl Int) (hx : x.l.length < 1000) (ha : a.l.length < 10000000) : ∃ y,msg_writer_digests x a=some y∧y.l.length≤a.l.length+17000 * x.l.length:=by
 unfold msg_writer_digests
 refine loop_ex (fun z : Sl Int×Int=>∃ i : Nat,i≤x.l.length∧z.2=i∧z.1.l.length≤a.l.length+17000 * i) (fun o=>∃ y : Sl Int,o=some y∧y.l.length≤a.l.length+17000 * x.l.length) (fun z=>((x.l.length : Int) - z.2).toNat) (fun z hz=>?_) _ ⟨0,by omega,rfl,by simp⟩ (by simp; omega)
 obtain ⟨y,i⟩:=z
 obtain ⟨n,hn1,hi,hy⟩:=hz
 simp only at hi hy ⊢
 subst hi
 by_cases hnl : n=x.l.length
 ·right
  refine ⟨some y,⟨y,rfl,by rw [hnl] at hy; exact hy⟩,fun k=>?_⟩
  unfold msg_writer_digests_B72
  rw [if_neg (by rw [ltB]; simp; omega)]
 ·left
  have hlt : n < x.l.length:=by omega
  obtain ⟨w,e1,e2,_⟩:=text_ex (byA x.l[n]) y (by rw [byA_len]; omega) (by omega)
  refine ⟨(w,((n+1 : Nat) : Int)),⟨n+1,by omega,rfl,?_⟩,by simp only; omega,fun k=>?_⟩
  ·exact Nat.le_trans e2 (Nat.le_trans (Nat.add_le_add_right hy _) (Nat.le_of_eq (by rw [Nat.mul_succ,Nat.add_assoc])))
  ·unfold msg_writer_digests_B72
   rw [if_pos (by rw [ltB]; simp; omega)]
   simp only
   rw [idx_in hlt,Option.bind_some,mac_Bytes_eq,Option.bind_some,e1,Option.bind_some,incL hlt (by omega)]
abbrev zR : Reply:=⟨0,0,[],Arr.zero 32,⟨true,true,[]⟩,0,[],Arr.zero 32,[],Arr.zero 32⟩
abbrev zS : Submit:=⟨0,0,0,[],Arr.zero 32,Arr.zero 32⟩
abbrev zB : Blob:=⟨0,0,[],Arr.zero 32⟩
abbrev zI : Sl Int:=⟨true,true,[]⟩
def askB (c : Int) (x : Submit) : Bool:=submitB x&&inB 0 7 c
theorem inB_of {lo hi x : Int} (h : inB lo hi x=true) : lo≤x∧x≤hi:=inB_iff.1 h
theorem put1_eq (c : Int) (x : Submit) : ∃ t,msg_Put c x zR [] (Arr.zero 32) (Arr.zero 32) zB zI=some (t,if askB c x=true then 0 else 2):=by
 unfold msg_Put msg_right msg_own
 rw [submit_eq,Option.bind_some,Option.bind_some]
 simp only
 unfold askB
 by_cases hs : submitB x=true
 case neg =>
  rw [if_neg hs]
  simp only [Bool.not_eq_true] at hs
  simp only [msg_right_J1,Option.bind_some,Bool.false_eq_true,if_false,hs,Bool.false_and]
  exact ⟨_,rfl⟩
 rw [if_pos hs,client_in,Option.bind_some]
 by_cases hc : inB 0 7 c=true
 case neg =>
  rw [if_neg hc]
  simp only [Bool.not_eq_true] at hc
  simp only [msg_right_J1,Option.bind_some,Bool.false_eq_true,if_false,hc,Bool.and_false]
  exact ⟨_,rfl⟩
 rw [if_pos hc,msg_same _ (by simp) (by simp),Option.bind_some]
 simp only [msg_right_J1,Option.bind_some,if_true,hs,hc,Bool.and_self]
 simp only [submitB,Bool.and_eq_true,decide_eq_true_eq] at hs
 obtain ⟨s1,s2,s3,s4⟩:=hs
 have b1:=inB_of s1
 have b2:=inB_of s2
 have b3:=inB_of s3
 have b4:=inB_of hc
 obtain ⟨y1,e1,l1⟩:=ints_ex ⟨false,true,[1]⟩ ⟨true,true,[]⟩ (by simp) (fun n hn=>by simp at hn; subst hn; exact .inl ⟨by omega,by omega⟩) (by simp)
 simp at l1
 rw [e1,Option.bind_some]
 obtain ⟨y2,e2,l2⟩:=ints_ex ⟨false,true,[c]⟩ y1 (by simp) (fun n hn=>by simp at hn; subst hn; exact .inl ⟨by omega,by omega⟩) (by omega)
 simp at l2
 rw [e2,Option.bind_some]
 obtain ⟨y3,e3,l3⟩:=ints_ex ⟨false,true,[x.Number,x.Kind,x.Target]⟩ y2 (by simp) (fun n hn=>by
  simp at hn
  rcases hn with rfl|rfl|rfl<;>exact .inl ⟨by omega,by omega⟩) (by omega)
 simp at l3
 rw [e3,Option.bind_some]
 obtain ⟨y4,e4,l4,_⟩:=text_ex x.Value y3 (by omega) (by omega)
 rw [e4,Option.bind_some]
 obtain ⟨y5,e5,l5⟩:=digs_ex ⟨false,true,[x.Asked,x.Data]⟩ y4 (by simp) (by omega)
 rw [e5,Option.bind_some]
 exact ⟨_,rfl⟩
theorem r10_right1_eq (c : Int) (x : Submit) : r10_Right c x zR [] (Arr.zero 32) (Arr.zero 32) zB zI=some (askB c x):=by
 unfold r10_Right r10_bare r10_Right_J2
 rw [r10_within_eq,Option.bind_some,if_pos (by decide),r10_within_eq,Option.bind_some,Option.bind_some,asks_eq]
 have e : iLe (x.Value.length : Int) 256=decide (x.Value.length≤256):=len_le _ 256
 rw [r10_same _ (by simp) (by simp),Option.bind_some,if_pos rfl,Option.bind_some,e]
 unfold askB submitB
 cases inB 0 7 c<;>cases inB 1 512 x.Number<;>cases inB 1 2 x.Kind<;>cases inB 0 7 x.Target<;>cases decide (x.Value.length≤256)<;>rfl
def pendB (p : Pending) : Bool:=inB 0 7 p.Client&&(inB 0 7 p.Target&&(inB 1 512 p.Number&&inB 1 2 p.Kind))
def headB (r : Reply) : Bool:=inB 1 512 r.Number&&(inB (-1) 7 r.Last&&(((r.View==[])==(r.Last==(-1)))&&(decide (r.Pending.l.length≤8)&&(rightB r.View 8&&(rightB r.Seen 8&&(inB 0 512 r.ValueNumber&&decide (r.Value.length≤256)))))))
def replyB (r : Reply) : Bool:=r.Pending.l.all pendB&&headB r
theorem reply_J_eq (r : Reply) (hv : r.View.length≤9223372036854775807) (hs : r.Seen.length≤9223372036854775807) : msg_reply_J1 r=some (headB r):=by
 unfold msg_reply_J1 msg_reply_J2 msg_view headB
 have e : iLe (r.Value.length : Int) 256=decide (r.Value.length≤256):=len_le _ 256
 have e2 : iGt (r.Pending.l.length : Int) 8=!decide (r.Pending.l.length≤8):=by rw [gtB]; by_cases h : r.Pending.l.length≤8<;>simp [h]<;>omega
 rw [number_in,Option.bind_some,within_eq,Option.bind_some,right_eq _ _ hv,Option.bind_some,Option.bind_some,right_eq _ _ hs,Option.bind_some,Option.bind_some,within_eq,Option.bind_some,e,e2]
 cases inB 1 512 r.Number<;>cases inB (-1) 7 r.Last<;>cases ((r.View==[])==(r.Last==(-1)))<;>cases decide (r.Pending.l.length≤8)<;>cases rightB r.View 8<;>cases rightB r.Seen 8<;>cases inB 0 512 r.ValueNumber<;>rfl
theorem all_bad {r : Reply} {k : Nat} (hk : k < r.Pending.l.length) (hb : pendB r.Pending.l[k]=false) : replyB r=false:=by
 have : r.Pending.l.all pendB=false:=List.all_eq_false.2 ⟨_,List.getElem_mem hk,by simp [hb]⟩
 unfold replyB
 rw [this]
 rfl
theorem all_good {r : Reply} (ha : ∀ p∈r.Pending.l,pendB p=true) : replyB r=headB r:=by
 have : r.Pending.l.all pendB=true:=List.all_eq_true.2 ha
 unfold replyB
 rw [this]
 rfl
theorem reply_eq (r : Reply) (hv : r.View.length≤9223372036854775807) (hs : r.Seen.length≤9223372036854775807) (hp : r.Pending.l.length < 1000) : msg_reply r=some (replyB r):=by
 unfold msg_reply
 refine loop_ex (fun z : Int=>∃ k : Nat,k≤r.Pending.l.length∧z=k∧∀ p∈r.Pending.l.take k,pendB p=true) (fun o=>o=some (replyB r)) (fun z=>((r.Pending.l.length : Int) - z).toNat) (fun z hz=>?_) _ ⟨0,by omega,rfl,by simp⟩ (by simp; omega)
 obtain ⟨k,hk,rfl,ha⟩:=hz
 by_cases hlt : k < r.Pending.l.length
 ·have hstep : ∀ kk : Int→Option Bool,msg_reply_B239 r kk (k : Int)=if pendB r.Pending.l[k]=true then kk ((k+1 : Nat) : Int) else some false:=fun kk=>by
   unfold msg_reply_B239
   rw [if_pos (by rw [ltB]; simp; omega),idx_in hlt,Option.bind_some,client_in,Option.bind_some,client_in,Option.bind_some,number_in,Option.bind_some,kind_in,Option.bind_some,incL hlt (by omega)]
   unfold pendB
   cases inB 0 7 r.Pending.l[k].Client<;>cases inB 0 7 r.Pending.l[k].Target<;>cases inB 1 512 r.Pending.l[k].Number<;>cases inB 1 2 r.Pending.l[k].Kind<;>rfl
  by_cases hb : pendB r.Pending.l[k]=true
  ·left
   refine ⟨((k+1 : Nat) : Int),⟨k+1,by omega,rfl,fun p hp'=>?_⟩,by omega,fun kk=>by rw [hstep,if_pos hb]⟩
   rw [List.take_succ_eq_append_getElem hlt,List.mem_append] at hp'
   rcases hp' with hp'|hp'
   ·exact ha p hp'
   ·rw [List.mem_singleton.1 hp']; exact hb
  ·right
   refine ⟨_,rfl,fun kk=>?_⟩
   rw [hstep,if_neg hb,all_bad hlt (by simpa using hb)]
 ·right
  have hk2 : k=r.Pending.l.length:=by omega
  subst hk2
  rw [List.take_length] at ha
  refine ⟨_,rfl,fun kk=>?_⟩
  unfold msg_reply_B239
  rw [if_neg (by rw [ltB]; simp),all_good ha]
  exact reply_J_eq r hv hs
theorem r10_reply_J_eq (r : Reply) : r10_reply_J1 r=some (headB r):=by
 unfold r10_reply_J1 r10_reply_J2 r10_reply_J3 headB
 have e : iLe (r.Value.length : Int) 256=decide (r.Value.length≤256):=len_le _ 256
 have e2 : iLe (r.Pending.l.length : Int) 8=decide (r.Pending.l.length≤8):=by rw [leB,decide_eq_decide]; omega
 rw [r10_within_eq,Option.bind_some,r10_within_eq,Option.bind_some,r09_right_eq,Option.bind_some,r09_right_eq,Option.bind_some,r10_within_eq,Option.bind_some,e,e2]
 have e3 : (r.Last != (-1))=!(r.Last==(-1)):=rfl
 rw [e3]
 cases (r.View==[])<;>cases (r.Last==(-1))<;>cases inB 1 512 r.Number<;>cases inB (-1) 7 r.Last<;>cases decide (r.Pending.l.length≤8)<;>cases rightB r.View 8<;>cases rightB r.Seen 8<;>cases inB 0 512 r.ValueNumber<;>rfl
theorem r10_reply_eq (r : Reply) (hp : r.Pending.l.length < 1000) : r10_reply r=some (replyB r):=by
 unfold r10_reply
 refine loop_ex (fun z : Int=>∃ k : Nat,k≤r.Pending.l.length∧z=k∧∀ p∈r.Pending.l.take k,pendB p=true) (fun o=>o=some (replyB r)) (fun z=>((r.Pending.l.length : Int) - z).toNat) (fun z hz=>?_) _ ⟨0,by omega,rfl,by simp⟩ (by simp; omega)
 obtain ⟨k,hk,rfl,ha⟩:=hz
 by_cases hlt : k < r.Pending.l.length
 ·have hstep : ∀ kk : Int→Option Bool,r10_reply_B328 r kk (k : Int)=if pendB r.Pending.l[k]=true then kk ((k+1 : Nat) : Int) else some false:=fun kk=>by
   unfold r10_reply_B328
   rw [if_pos (by rw [ltB]; simp; omega),idx_in hlt,Option.bind_some,r10_within_eq,Option.bind_some,asks_eq,Option.bind_some,incL hlt (by omega)]
   unfold pendB
   cases inB 0 7 r.Pending.l[k].Client<;>cases inB 0 7 r.Pending.l[k].Target<;>cases inB 1 512 r.Pending.l[k].Number<;>cases inB 1 2 r.Pending.l[k].Kind<;>rfl
  by_cases hb : pendB r.Pending.l[k]=true
  ·left
   refine ⟨((k+1 : Nat) : Int),⟨k+1,by omega,rfl,fun p hp'=>?_⟩,by omega,fun kk=>by rw [hstep,if_pos hb]⟩
   rw [List.take_succ_eq_append_getElem hlt,List.mem_append] at hp'
   rcases hp' with hp'|hp'
   ·exact ha p hp'
   ·rw [List.mem_singleton.1 hp']; exact hb
  ·right
   refine ⟨_,rfl,fun kk=>?_⟩
   rw [hstep,if_neg hb,all_bad hlt (by simpa using hb)]
 ·right
  have hk2 : k=r.Pending.l.length:=by omega
  subst hk2
  rw [List.take_length] at ha
  refine ⟨_,rfl,fun kk=>?_⟩
  unfold r10_reply_B328
  rw [if_neg (by rw [ltB]; simp),all_good ha]
  exact r10_reply_J_eq r
end Go.Proofs.YthejafdkimbddaaGreatDoor
namespace Go.Proofs.YthejafdkimbddaaGreatDoor
open Go.Abs
theorem answer_ex (r : Reply) (h : replyB r=true) (a : Sl Int) (ha : a.l.length < 1000) : ∃ y,msg_writer_answer r a=some y:=by
 simp only [replyB,headB,Bool.and_eq_true,decide_eq_true_eq,List.all_eq_true] at h
 obtain ⟨hp,h1,h2,_,h4,h5,h6,h7,h8⟩:=h
 have b1:=inB_of h1
 have b2:=inB_of h2
 have b5:=right_le h5
 have b6:=right_le h6
 have b7:=inB_of h7
 unfold msg_writer_answer
 obtain ⟨y1,e1,l1⟩:=ints_ex ⟨false,true,[r.Number,r.Last]⟩ a (by simp) (fun n hn=>by
  simp at hn
  rcases hn with rfl|rfl
  ·exact .inl ⟨by omega,by omega⟩
  ·by_cases hm : r.Last=-1
   ·exact .inr hm
   ·exact .inl ⟨by omega,by omega⟩) (by omega)
 simp at l1
 rw [e1,Option.bind_some]
 obtain ⟨y2,e2,l2,_⟩:=text_ex r.View y1 (by omega) (by omega)
 rw [e2,Option.bind_some]
 obtain ⟨y3,e3,l3⟩:=digs_ex ⟨false,true,[r.Commit]⟩ y2 (by simp) (by omega)
 simp at l3
 rw [e3,Option.bind_some]
 obtain ⟨y4,e4,l4⟩:=ints_ex ⟨false,true,[(r.Pending.l.length : Int)]⟩ y3 (by simp) (fun n hn=>by simp at hn; subst hn; exact .inl ⟨by omega,by omega⟩) (by omega)
 simp at l4
 rw [e4,Option.bind_some]
 have hJ : ∀ z : Sl Int,z.l.length < 900000→∃ y,msg_writer_answer_J1 r z=some y:=fun z hz=>by
  unfold msg_writer_answer_J1
  obtain ⟨z1,f1,m1⟩:=ints_ex ⟨false,true,[r.ValueNumber]⟩ z (by simp) (fun n hn=>by simp at hn; subst hn; exact .inl ⟨by omega,by omega⟩) (by omega)
  simp at m1
  rw [f1,Option.bind_some]
  obtain ⟨z2,f2,m2,_⟩:=text_ex r.Value z1 (by omega) (by omega)
  rw [f2,Option.bind_some]
  obtain ⟨z3,f3,m3⟩:=digs_ex ⟨false,true,[r.Data]⟩ z2 (by simp) (by omega)
  simp at m3
  rw [f3,Option.bind_some]
  obtain ⟨z4,f4,m4,_⟩:=text_ex r.Seen z3 (by omega) (by omega)
  rw [f4,Option.bind_some]
  obtain ⟨z5,f5,_⟩:=digs_ex ⟨false,true,[r.SeenTag]⟩ z4 (by simp) (by omega)
  rw [f5,Option.bind_some]
  exact ⟨_,rfl⟩
 refine loop_ex (fun z : Sl Int×Int=>∃ i : Nat,i≤r.Pending.l.length∧z.2=i∧z.1.l.length≤40000 * (i+1)) (fun o=>∃ y,o=some y) (fun z=>((r.Pending.l.length : Int) - z.2).toNat) (fun z hz=>?_) _ ⟨0,by omega,rfl,by simp only; omega⟩ (by simp; omega)
 obtain ⟨z,i⟩:=z
 obtain ⟨n,hn1,hi,hy⟩:=hz
 simp only at hi hy ⊢
 subst hi
 by_cases hnl : n=r.Pending.l.length
 ·right
  obtain ⟨y,ey⟩:=hJ z (by omega)
  refine ⟨some y,⟨y,rfl⟩,fun k=>?_⟩
  unfold msg_writer_answer_B113
  rw [if_neg (by rw [ltB]; simp; omega)]
  exact ey
 ·left
  have hlt : n < r.Pending.l.length:=by omega
  have hq:=hp _ (List.getElem_mem hlt)
  simp only [pendB,Bool.and_eq_true] at hq
  obtain ⟨q1,q2,q3,q4⟩:=hq
  have c1:=inB_of q1
  have c2:=inB_of q2
  have c3:=inB_of q3
  have c4:=inB_of q4
  obtain ⟨z1,f1,m1⟩:=ints_ex ⟨false,true,[r.Pending.l[n].Client,r.Pending.l[n].Number,r.Pending.l[n].Kind,r.Pending.l[n].Target]⟩ z (by simp) (fun x hx=>by
   simp at hx
   rcases hx with rfl|rfl|rfl|rfl<;>exact .inl ⟨by omega,by omega⟩) (by omega)
  simp at m1
  obtain ⟨z2,f2,m2⟩:=digs_ex ⟨false,true,[r.Pending.l[n].Asked,r.Pending.l[n].Proof]⟩ z1 (by simp) (by omega)
  simp at m2
  refine ⟨(z2,((n+1 : Nat) : Int)),⟨n+1,by omega,rfl,?_⟩,by simp only; omega,fun k=>?_⟩
  ·have m3 : z2.l.length≤40000 * (n+1)+84+34000:=Nat.le_trans m2 (Nat.add_le_add_right (Nat.le_trans m1 (Nat.add_le_add_right hy _)) _)
   have m4 : 40000 * (n+1)+84+34000≤40000 * (n+1+1):=by
    rw [Nat.mul_succ 40000 (n+1),Nat.add_assoc]
    exact Nat.add_le_add_left (by decide) _
   exact Nat.le_trans m3 m4
  ·unfold msg_writer_answer_B113
   rw [if_pos (by rw [ltB]; simp; omega)]
   simp only
   rw [idx_in hlt,Option.bind_some,f1,Option.bind_some,f2,Option.bind_some,incL hlt (by omega)]
theorem put2_eq (r : Reply) (hv : r.View.length≤9223372036854775807) (hs : r.Seen.length≤9223372036854775807) (hp : r.Pending.l.length < 1000) : ∃ t,msg_Put_2 zS r [] (Arr.zero 32) (Arr.zero 32) zB zI=some (t,if replyB r=true then 0 else 2):=by
 unfold msg_Put_2 msg_right_2 msg_own_2
 rw [reply_eq r hv hs hp,Option.bind_some,Option.bind_some]
 simp only
 by_cases h : replyB r=true
 case neg =>
  simp only [Bool.not_eq_true] at h
  simp only [msg_right_2_J1,Option.bind_some,Bool.false_eq_true,if_false,h]
  exact ⟨_,rfl⟩
 rw [if_pos h,client_in,Option.bind_some,if_pos (by decide),msg_same _ (by simp only; omega) (by simp),Option.bind_some]
 simp only [msg_right_2_J1,Option.bind_some,if_true,h]
 obtain ⟨y1,e1,l1⟩:=ints_ex ⟨false,true,[2]⟩ ⟨true,true,[]⟩ (by simp) (fun n hn=>by simp at hn; subst hn; exact .inl ⟨by omega,by omega⟩) (by simp)
 simp at l1
 rw [e1,Option.bind_some]
 obtain ⟨y2,e2⟩:=answer_ex r h y1 (by omega)
 rw [e2,Option.bind_some]
 exact ⟨_,rfl⟩
theorem r10_right2_eq (r : Reply) (hp : r.Pending.l.length < 1000) : r10_Right_2 zS r [] (Arr.zero 32) (Arr.zero 32) zB zI=some (replyB r):=by
 unfold r10_Right_2 r10_bare_2
 rw [r10_within_eq,Option.bind_some,if_pos (by decide),r10_within_eq,Option.bind_some,if_pos (by decide),Option.bind_some,r10_same _ (by simp) (by simp),Option.bind_some,if_pos rfl,r10_reply_eq r hp,Option.bind_some]
def isB (c : Int) : Bool:=decide (0≤c)&&decide (c < 3)
def numsOk (me : Int) (view : List UInt8) (x : Submit) (y : Reply) : Bool:=(x.Number==(cntI view me : Int)+1)&&(y.Number==x.Number)
def mayB (me : Int) (view : List UInt8) (x : Submit) (y : Reply) : Bool:=askB me x&&(replyB y&&(isB me&&(isB x.Target&&(rightB view 3&&numsOk me view x y))))
theorem clients_eq (s : List UInt8) (m : Mp Ring_tagged Int) : ring_Ring_Clients s ringK m=some 3:=by
 unfold ring_Ring_Clients
 rfl
theorem may_eq (me : Int) (view : List UInt8) (x : Submit) (y : Reply) (hv : view.length≤600) (hw : y.View.length≤9223372036854775807) (hs : y.Seen.length≤9223372036854775807) (hp : y.Pending.l.length < 1000) (s : List UInt8) (m : Mp Ring_tagged Int) : verify_may me view x y s ringK m=some (mayB me view x y):=by
 obtain ⟨t1,e1⟩:=put1_eq me x
 obtain ⟨t2,e2⟩:=put2_eq y hw hs hp
 unfold verify_may verify_may_J1
 rw [e1,Option.bind_some,e2,Option.bind_some,is_eq,Option.bind_some,is_eq,Option.bind_some,clients_eq,Option.bind_some,right_eq _ _ (by omega),Option.bind_some,count_eq (by omega),Option.bind_some,add1 (by omega) (by have:=cntI_le view me; omega)]
 unfold mayB numsOk isB
 cases askB me x<;>cases replyB y<;>cases (decide (0≤me)&&decide (me < 3))<;>cases (decide (0≤x.Target)&&decide (x.Target < 3))<;>cases rightB view 3<;>cases (x.Number==(cntI view me : Int)+1)<;>rfl
def lastI (v : List UInt8) : Int:=((v.getLastD 0).toNat : Int)
theorem last_eq {v : List UInt8} (h : v≠[]) (hl : v.length≤9223372036854775807) : idxB v (iSub .i64 (v.length : Int) 1)=some (lastI v):=by
 have hpos : 0 < v.length:=List.length_pos_iff.2 h
 have e : iSub .i64 (v.length : Int) 1=((v.length - 1 : Nat) : Int):=by
  simp [iSub,IntKind.wrap,IntKind.bits,IntKind.signed]; omega
 rw [e,idxB_in (by omega)]
 unfold lastI
 rw [List.getLastD_eq_getLast?,List.getLast?_eq_getElem?,List.getElem?_eq_getElem (by omega)]
 rfl
theorem wrapLast (v : List UInt8) : IntKind.wrap .i64 (lastI v)=lastI v:=wrapB _
def longE (y : Reply) : Int:=if (y.View==[])=true then 0 else if isB y.Last=true then if rightB y.View 3=true then if (lastI y.View != y.Last)=true then 8 else if isTag y.Last 3 y.View y.Commit=true then 0 else 7 else 2 else 2
theorem long_eq (y : Reply) (hl : y.View.length≤9223372036854775807) (s : List UInt8) (m : Mp Ring_tagged Int) : verify_long y s ringK m=some (longE y):=by
 unfold verify_long longE
 by_cases h0 : (y.View==[])=true
 ·rw [if_pos h0,if_pos h0]
 rw [if_neg h0,if_neg h0,is_eq,Option.bind_some,clients_eq,Option.bind_some,right_eq _ _ hl,Option.bind_some,last_eq (by simpa using h0) hl,Option.bind_some,wrapLast,holds_eq,Option.bind_some]
 unfold isB
 by_cases h1 : (decide (0≤y.Last)&&decide (y.Last < 3))=true
 case neg=>rw [if_neg h1,if_neg h1]
 rw [if_pos h1,if_pos h1]
 by_cases h2 : rightB y.View 3=true
 case neg=>rw [if_neg h2,if_neg h2]
 rw [if_pos h2,if_pos h2]
 by_cases h3 : (lastI y.View != y.Last)=true
 ·rw [if_pos h3,if_pos h3]
 rw [if_neg h3,if_neg h3]
 by_cases h4 : isTag y.Last 3 y.View y.Commit=true
 ·rw [if_pos h4,if_pos h4]
 ·rw [if_neg h4,if_neg h4]
theorem long_le {y : Reply} (h : longE y=0) : y.View.length≤512:=by
 unfold longE at h
 by_cases h0 : (y.View==[])=true
 ·have : y.View=[]:=by simpa using h0
  rw [this]; simp
 rw [if_neg h0] at h
 by_cases h1 : isB y.Last=true
 case neg=>rw [if_neg h1] at h; omega
 rw [if_pos h1] at h
 by_cases h2 : rightB y.View 3=true
 case neg=>rw [if_neg h2] at h; omega
 exact right_le h2
def goE (me : Int) (view : List UInt8) (y : Reply) : Int:=if goesB y.View view=true then if ((cntI y.View me : Int) != (cntI view me : Int))=true then 8 else 0 else 8
theorem first_J_eq (me : Int) (view : List UInt8) (y : Reply) (hv : view.length≤600) (hw : y.View.length≤512) : r14_first_J1 me view y=some (goE me view y):=by
 unfold r14_first_J1 goE
 rw [r09_goes_eq _ _ (by omega),Option.bind_some,r09_count_eq (by omega),Option.bind_some,r09_count_eq (by omega),Option.bind_some]
 by_cases h : goesB y.View view=true
 case neg=>rw [if_neg h,if_neg h]
 rw [if_pos h,if_pos h]
 by_cases h2 : ((cntI y.View me : Int) != (cntI view me : Int))=true
 ·rw [if_pos h2,if_pos h2]
 ·rw [if_neg h2,if_neg h2]
theorem first_eq (me : Int) (view : List UInt8) (y : Reply) (hv : view.length≤600) (hw : y.View.length≤9223372036854775807) (b : Sl Affidavitref04_Line) : r14_first me view y (ringR b)=some (if longE y=0 then goE me view y else longE y):=by
 have hfin : longE y=0→r14_first_J1 me view y=some (if longE y=0 then goE me view y else longE y):=fun h=>by
  rw [if_pos h]
  exact first_J_eq me view y hv (long_le h)
 unfold r14_first
 by_cases h0 : (y.View==[])=true
 ·rw [if_pos h0]
  exact hfin (by unfold longE; rw [if_pos h0])
 rw [if_neg h0,r14_is_eq,Option.bind_some,show (ringR b).N=3 from rfl,r09_right_eq,Option.bind_some,last_eq (by simpa using h0) hw,Option.bind_some,wrapLast,tagged_eq,Option.bind_some]
 have hE : longE y=if isB y.Last=true then if rightB y.View 3=true then if (lastI y.View != y.Last)=true then 8 else if isTag y.Last 3 y.View y.Commit=true then 0 else 7 else 2 else 2:=by
  unfold longE
  rw [if_neg h0]
 by_cases h1 : isB y.Last=true
 case neg =>
  rw [if_neg h1] at hE
  rw [if_neg (show ¬ (decide (0≤y.Last)&&decide (y.Last < 3))=true from h1),hE]
  rfl
 rw [if_pos h1] at hE
 rw [if_pos (show (decide (0≤y.Last)&&decide (y.Last < 3))=true from h1)]
 by_cases h2 : rightB y.View 3=true
 case neg =>
  rw [if_neg h2] at hE
  rw [if_neg h2,hE]
  rfl
 rw [if_pos h2] at hE
 rw [if_pos h2]
 by_cases h3 : (lastI y.View != y.Last)=true
 ·rw [if_pos h3] at hE
  rw [if_pos h3,hE]
  rfl
 rw [if_neg h3] at hE
 rw [if_neg h3]
 by_cases h4 : isTag y.Last 3 y.View y.Commit=true
 case neg =>
  rw [if_neg h4] at hE
  rw [if_neg h4,hE]
  rfl
 rw [if_pos h4] at hE
 rw [if_pos h4]
 exact hfin hE
theorem data_eq {n : Int} {v : List UInt8} (hn : numOkI n) (hv : v.length≤256) : msg_Data n v=some (numB n++textB v):=by
 unfold msg_Data msg_numbered msg_made_2 msg_numbered_1 msg_numbered_1_J1
 obtain ⟨y1,e1,l1⟩:=ints_eq ⟨false,true,[n]⟩ ⟨true,true,[]⟩ (by simp) (fun x hx=>by simp at hx; subst hx; exact hn) (by simp)
 have hl:=numB_len hn
 have l1' : y1.l=intsS (numB n):=by simpa [numsB] using l1
 obtain ⟨y2,e2,_,l2⟩:=text_ex v y1 (by omega) (by rw [l1',intsS_len]; omega)
 rw [e1,Option.bind_some,if_neg (by rw [gtB]; simp; omega),e2,Option.bind_some,Option.bind_some,Option.bind_some,Option.bind_some,l2,l1',bytesS_app,bytes_ints,bytes_ints]
theorem r10_text_eq {v : List UInt8} (hv : v.length≤256) : r10_Text v=some (textB v):=by
 have:=r01_text_eq (s:=v) (by omega)
 have hd:=decD_20 (n:=v.length) (by omega)
 unfold r10_Text
 have e : r01_Digits (v.length : Int)=some (decD v.length):=r01_digits_eq FUEL v.length (by unfold FUEL; omega) (by omega)
 rw [e,Option.bind_some,cat_ok (by simp; omega),Option.bind_some,cat_ok (by simp; omega),Option.bind_some]
 rfl
theorem numbered_eq {n : Int} {v : List UInt8} (hn : numOkI n) (hv : v.length≤256) : r10_Numbered n v=some (numB n++textB v):=by
 unfold r10_Numbered r10_Numbered_J1
 have h1:=numB_len hn
 have h2:=textB_len (s:=v) (by omega)
 rw [if_neg (by rw [gtB]; simp; omega),r01_number_eq hn,Option.bind_some,r10_text_eq hv,Option.bind_some,cat_ok (by omega),Option.bind_some]
theorem read_eq (d : List UInt8) (t : Int) (y : Reply) (hd : d.length≤600) (hv : y.Value.length≤256) (hs : y.Seen.length≤512) (s : List UInt8) (m : Mp Ring_tagged Int) (b : Sl Affidavitref04_Line) : ∃ e,verify_read d t y s ringK m=some e∧r14_fifth d t y (ringR b)=some e:=by
 unfold verify_read r14_fifth r14_fifth_J1 r14_fifth_J2 verify_read_J1
 have hc:=cntI_le d t
 have hc2:=cntI_le y.Seen t
 rw [count_eq (by omega),Option.bind_some,r09_count_eq (by omega),Option.bind_some]
 generalize hn : (cntI d t : Int)=n
 have hn0 : 0≤n∧n≤600:=by omega
 by_cases h1 : (y.ValueNumber != n)=true
 ·rw [if_pos h1,if_pos h1]; exact ⟨_,rfl,rfl⟩
 rw [if_neg h1,if_neg h1]
 have hvn : y.ValueNumber=n:=by simpa using h1
 by_cases h2 : (n==0)=true
 ·rw [if_pos h2,if_pos h2,if_pos h2]
  by_cases h3 : (y.Value==[])=true
  case neg=>rw [if_neg h3]; exact ⟨_,rfl,rfl⟩
  rw [if_pos h3]
  by_cases h4 : (y.Seen==[])=true
  case neg=>rw [if_neg h4]; exact ⟨_,rfl,rfl⟩
  rw [if_pos h4]
  exact ⟨_,rfl,rfl⟩
 rw [if_neg h2,if_neg h2,if_neg h2]
 have hn1 : n≠0:=by simpa using h2
 have hok : numOkI n:=⟨by omega,by omega⟩
 rw [hvn,data_eq hok hv,Option.bind_some,numbered_eq hok hv,Option.bind_some,holds_eq,Option.bind_some,tagged_eq,Option.bind_some]
 by_cases h3 : isTag t 2 (numB n++textB y.Value) y.Data=true
 case neg=>rw [if_neg h3,if_neg h3]; exact ⟨_,rfl,rfl⟩
 rw [if_pos h3,if_pos h3]
 by_cases h4 : (y.Seen==[])=true
 ·rw [if_pos h4,if_pos h4,if_pos h4]
  by_cases h5 : n=1
  ·rw [if_neg (by simp [h5]),if_neg (by rw [gtB]; simp; omega)]; exact ⟨_,rfl,rfl⟩
  ·rw [if_pos (by simpa using h5),if_pos (by rw [gtB]; simp; omega)]; exact ⟨_,rfl,rfl⟩
 rw [if_neg h4,if_neg h4,if_neg h4,count_eq (by omega),Option.bind_some,r09_count_eq (by omega),Option.bind_some,last_eq (by simpa using h4) (by omega),Option.bind_some,Option.bind_some,wrapLast]
 by_cases h5 : (lastI y.Seen != t)=true
 ·rw [if_pos h5,if_pos h5]; exact ⟨_,rfl,rfl⟩
 rw [if_neg h5,if_neg h5,goes_eq,Option.bind_some,r09_goes_eq _ _ (by omega),Option.bind_some]
 by_cases h6 : goesB d y.Seen=true
 case neg=>rw [if_neg h6,if_neg h6]; exact ⟨_,rfl,rfl⟩
 rw [if_pos h6,if_pos h6,holds_eq,Option.bind_some,tagged_eq,Option.bind_some,subw (x:=n) (y:=1) (by omega) (by omega)]
 generalize hk : (cntI y.Seen t : Int)=k
 by_cases h7 : k=n
 ·have g1 : ¬ iGt k n=true:=by rw [gtB]; simp; omega
  have g2 : ¬ iLt k (n - 1)=true:=by rw [ltB]; simp; omega
  have g3 : ¬ (k != n)=true:=by simp [h7]
  rw [if_neg g3,if_neg g1,if_neg g2]
  by_cases h8 : isTag t 3 y.Seen y.SeenTag=true
  ·rw [if_pos h8]; exact ⟨_,rfl,rfl⟩
  ·rw [if_neg h8]; exact ⟨_,rfl,rfl⟩
 have g3 : (k != n)=true:=by simpa using h7
 rw [if_pos g3]
 by_cases h8 : k=n - 1
 ·have g1 : ¬ iGt k n=true:=by rw [gtB]; simp; omega
  have g2 : ¬ iLt k (n - 1)=true:=by rw [ltB]; simp; omega
  have g4 : ¬ (k != n - 1)=true:=by simp [h8]
  rw [if_neg g4,if_neg g1,if_neg g2]
  by_cases h9 : isTag t 3 y.Seen y.SeenTag=true
  ·rw [if_pos h9]; exact ⟨_,rfl,rfl⟩
  ·rw [if_neg h9]; exact ⟨_,rfl,rfl⟩
 have g4 : (k != n - 1)=true:=by simpa using h8
 rw [if_pos g4]
 by_cases h9 : n < k
 ·have g1 : iGt k n=true:=by rw [gtB]; simp; omega
  rw [if_pos g1]; exact ⟨_,rfl,rfl⟩
 ·have g1 : ¬ iGt k n=true:=by rw [gtB]; simp; omega
  have g2 : iLt k (n - 1)=true:=by rw [ltB]; simp; omega
  rw [if_neg g1,if_pos g2]; exact ⟨_,rfl,rfl⟩
end Go.Proofs.YthejafdkimbddaaGreatDoor
namespace Go.Proofs.YthejafdkimbddaaGreatDoor
open Go.Abs
abbrev zG : Got:=⟨[],0,[],0,[],Arr.zero 32,[],Arr.zero 32⟩
theorem eqGot_refl (g : Got) : eqGot g g=true:=by simp [eqGot,eqA_refl]
theorem zArr : (⟨[0,0,0,0,0,0,0,0,0,0,0,0,0,0,0,0,0,0,0,0,0,0,0,0,0,0,0,0,0,0,0,0],by rfl⟩ : Arr 32)=Arr.zero 32:=rfl
def gotOf (x : Submit) (y : Reply) (v : List UInt8) (t : Arr 32) : Got:=if (x.Kind==2)=true then if (y.Seen==[])=true then ⟨v,y.ValueNumber,y.Value,y.Last,y.View,t,y.Seen,Arr.zero 32⟩ else ⟨v,y.ValueNumber,y.Value,y.Last,y.View,t,y.Seen,y.SeenTag⟩ else ⟨v,0,[],y.Last,y.View,t,[],Arr.zero 32⟩
theorem J4_eq (x : Submit) (y : Reply) (v : List UInt8) (t : Arr 32) : verify_Check_J4 x y v t=some (gotOf x y v t,0):=by
 unfold verify_Check_J4 verify_Check_J5 gotOf
 by_cases h1 : (x.Kind==2)=true
 ·by_cases h2 : (y.Seen==[])=true
  ·rw [if_pos h1,if_pos h2,if_pos h1,if_pos h2,zArr]
  ·rw [if_pos h1,if_neg h2,if_pos h1,if_neg h2]
 ·rw [if_neg h1,if_neg h1]
def longTag (y : Reply) : Arr 32:=if (y.View==[])=true then Arr.zero 32 else y.Commit
theorem fin_eq (me : Int) (x : Submit) (y : Reply) (d : List UInt8) (hd : d.length≤600) (hv : y.Value.length≤256) (hs : y.Seen.length≤512) (s : List UInt8) (m : Mp Ring_tagged Int) (b : Sl Affidavitref04_Line) : ∃ r,verify_Check_J1 me x y s ringK m d 0=some r∧r14_Check_J1 me x y (ringR b) d=some r:=by
 unfold verify_Check_J1 r14_Check_J1
 rw [if_pos (by rfl)]
 by_cases h1 : iGe (d.length : Int) 512=true
 ·rw [if_pos h1,if_pos h1]
  unfold verify_Check_J2 verify_Check_J3
  rw [if_neg (by decide),if_pos (by decide)]
  exact ⟨_,rfl,rfl⟩
 rw [if_neg h1,if_neg h1]
 unfold verify_Check_J2 r14_add
 rw [if_pos (by rfl),catS_in (by simp [bytesS]; omega),Option.bind_some,Option.bind_some]
 have hJ3 : verify_Check_J3 me x y d 0=some (gotOf x y (d++bytesS [IntKind.wrap .u8 me]) (longTag y),0):=by
  unfold verify_Check_J3
  rw [if_neg (by decide),catS_in (by simp [bytesS]; omega),Option.bind_some,J4_eq,J4_eq,zArr]
  unfold longTag
  by_cases h : (y.View==[])=true
  ·rw [if_pos h,if_pos h]
  ·rw [if_neg h,if_neg h]
 have hE : ∀ e : Int,e≠0→verify_Check_J3 me x y d e=some (zG,e):=fun e he=>by
  have he : (e != 0)=true:=by simpa using he
  unfold verify_Check_J3
  rw [if_pos he]
 have hlt : ∀ F : Arr 32→Option (Got×Int),(if (y.View==[])=true then F (Arr.zero 32) else F y.Commit)=F (longTag y):=fun F=>by
  unfold longTag
  by_cases h : (y.View==[])=true
  ·rw [if_pos h,if_pos h]
  ·rw [if_neg h,if_neg h]
 have hl2:=hlt fun t=>r14_Check_J2 x y (ringR b) d (d++bytesS [IntKind.wrap .u8 me]) t
 simp only at hl2 ⊢
 rw [hl2]
 unfold r14_Check_J2 r14_Check_J3
 by_cases h2 : (x.Kind==2)=true
 ·rw [if_pos h2,if_pos h2]
  obtain ⟨e,e1,e2⟩:=read_eq d x.Target y hd hv hs s m b
  rw [e1,Option.bind_some,e2,Option.bind_some]
  by_cases h3 : e=0
  ·subst h3
   have h0 : ¬ ((0 : Int) != 0)=true:=by decide
   rw [hJ3,if_neg h0]
   refine ⟨_,rfl,?_⟩
   unfold gotOf
   rw [if_pos h2]
   by_cases h4 : (y.Seen==[])=true
   ·rw [if_pos h4,if_pos h4]
   ·rw [if_neg h4,if_neg h4]
  ·have h4 : (e != 0)=true:=by simpa using h3
   rw [hE e h3,if_pos h4]
   exact ⟨_,rfl,rfl⟩
 ·rw [if_neg h2,if_neg h2,hJ3]
  refine ⟨_,rfl,?_⟩
  unfold gotOf
  rw [if_neg h2]
theorem check_eq2 (me : Int) (view : List UInt8) (x : Submit) (y : Reply) (hv : view.length≤600) (hw : y.View.length≤9223372036854775807) (hs : y.Seen.length≤9223372036854775807) (hp : y.Pending.l.length≤12) (s : List UInt8) (m : Mp Ring_tagged Int) (b : Sl Affidavitref04_Line) : ∃ r,verify_Check me view x y s ringK m=some r∧r14_Check me view x y (ringR b)=some r:=by
 unfold verify_Check r14_Check
 rw [may_eq me view x y hv hw hs (by omega),Option.bind_some,r10_right1_eq,Option.bind_some,r10_right2_eq y (by omega),Option.bind_some,r14_is_eq,Option.bind_some,r14_is_eq,Option.bind_some,show (ringR b).N=3 from rfl,r09_right_eq,Option.bind_some,r09_count_eq (by omega),Option.bind_some,add1 (by omega) (by have:=cntI_le view me; omega),first_eq me view y hv hw b,Option.bind_some,long_eq y hw,Option.bind_some]
 by_cases hm : mayB me view x y=true
 case neg =>
  rw [if_neg hm]
  refine ⟨_,rfl,?_⟩
  simp only [mayB,numsOk,isB] at hm
  by_cases k1 : askB me x=true
  case neg=>rw [if_neg k1]
  rw [if_pos k1]
  by_cases k2 : replyB y=true
  case neg=>rw [if_neg k2]
  rw [if_pos k2]
  by_cases k3 : (decide (0≤me)&&decide (me < 3))=true
  case neg=>rw [if_neg k3]
  rw [if_pos k3]
  by_cases k4 : (decide (0≤x.Target)&&decide (x.Target < 3))=true
  case neg=>rw [if_neg k4]
  rw [if_pos k4]
  by_cases k5 : rightB view 3=true
  case neg=>rw [if_neg k5]
  rw [if_pos k5]
  by_cases k6 : (x.Number != (cntI view me : Int)+1)=true
  ·rw [if_pos k6]
  rw [if_neg k6]
  by_cases k7 : (y.Number != x.Number)=true
  ·rw [if_pos k7]
  exfalso
  apply hm
  have k6' : (x.Number==(cntI view me : Int)+1)=true:=by simpa using k6
  have k7' : (y.Number==x.Number)=true:=by simpa using k7
  rw [k1,k2,k3,k4,k5,k6',k7']
  rfl
 rw [if_pos hm]
 simp only [mayB,numsOk,isB,Bool.and_eq_true] at hm
 obtain ⟨k1,k2,k3,k4,k5,k6,k7⟩:=hm
 have k3' : (decide (0≤me)&&decide (me < 3))=true:=by rw [Bool.and_eq_true]; exact k3
 have k4' : (decide (0≤x.Target)&&decide (x.Target < 3))=true:=by rw [Bool.and_eq_true]; exact k4
 have k6' : ¬ (x.Number != (cntI view me : Int)+1)=true:=by simpa using k6
 have k7' : ¬ (y.Number != x.Number)=true:=by simpa using k7
 rw [if_pos k1,if_pos k2,if_pos k3',if_pos k4',if_pos k5,if_neg k6',if_neg k7']
 by_cases hL : longE y=0
 case neg =>
  have h1 : (longE y != 0)=true:=by simpa using hL
  rw [if_pos h1,if_neg hL,if_pos h1]
  exact ⟨_,rfl,rfl⟩
 have h1 : ¬ (longE y != 0)=true:=by simp [hL]
 have hV:=long_le hL
 rw [if_neg h1,if_pos hL,goes_eq,Option.bind_some,count_eq (by omega),Option.bind_some,count_eq (by omega),Option.bind_some]
 unfold goE
 by_cases hg : goesB y.View view=true
 case neg=>rw [if_neg hg,if_neg hg]; exact ⟨_,rfl,rfl⟩
 rw [if_pos hg,if_pos hg]
 by_cases hc : ((cntI y.View me : Int) != (cntI view me : Int))=true
 ·rw [if_pos hc,if_pos hc]; exact ⟨_,rfl,rfl⟩
 rw [if_neg hc,if_neg hc]
 have h0 : ¬ ((0 : Int) != 0)=true:=by decide
 rw [if_neg h0]
 simp only [replyB,headB,Bool.and_eq_true,decide_eq_true_eq] at k2
 obtain ⟨_,_,_,_,q4,_,q6,_,q8⟩:=k2
 have q6:=right_le q6
 have key : ∀ (n : Nat) (i : Nat) (d : List UInt8) (f1 f2 : Nat),i+n=y.Pending.l.length→d.length≤512+i→n < f1→n < f2→∃ r,loopN (verify_Check_B118 me x y s ringK m) f1 (d,0,(i : Int))=some r∧loopN (r14_Check_B231 me x y (ringR b)) f2 (d,(i : Int))=some r:=by
  intro n
  induction n with
  | zero =>
    intro i d f1 f2 hi hd h1 h2
    obtain ⟨g1,rfl⟩ : ∃ g,f1=g+1:=⟨f1 - 1,by omega⟩
    obtain ⟨g2,rfl⟩ : ∃ g,f2=g+1:=⟨f2 - 1,by omega⟩
    obtain ⟨r,e1,e2⟩:=fin_eq me x y d (by omega) q8 q6 s m b
    refine ⟨r,?_,?_⟩
    ·show verify_Check_B118 me x y s ringK m _ (d,0,(i : Int))=_
     unfold verify_Check_B118
     rw [if_neg (by rw [ltB]; simp; omega)]
     exact e1
    ·show r14_Check_B231 me x y (ringR b) _ (d,(i : Int))=_
     unfold r14_Check_B231
     rw [if_neg (by rw [ltB]; simp; omega)]
     exact e2
  | succ n ih =>
    intro i d f1 f2 hi hd h1 h2
    obtain ⟨g1,rfl⟩ : ∃ g,f1=g+1:=⟨f1 - 1,by omega⟩
    obtain ⟨g2,rfl⟩ : ∃ g,f2=g+1:=⟨f2 - 1,by omega⟩
    have hlt : i < y.Pending.l.length:=by omega
    show ∃ r,verify_Check_B118 me x y s ringK m (loopN (verify_Check_B118 me x y s ringK m) g1) (d,0,(i : Int))=some r∧r14_Check_B231 me x y (ringR b) (loopN (r14_Check_B231 me x y (ringR b)) g2) (d,(i : Int))=some r
    unfold verify_Check_B118 r14_Check_B231
    have c1 : iLt (i : Int) (y.Pending.l.length : Int)=true:=by rw [ltB]; simp; omega
    simp only
    rw [if_pos c1,if_pos c1,idx_in hlt,Option.bind_some,Option.bind_some,Option.bind_some]
    have hErr : ∀ (d : List UInt8) (e : Int),e≠0→verify_Check_J1 me x y s ringK m d e=some (zG,e):=fun d e he=>by
     have t1 : ¬ (e==0)=true:=by simpa using he
     have t2 : (e != 0)=true:=by simpa using he
     unfold verify_Check_J1 verify_Check_J2 verify_Check_J3
     rw [if_neg t1,if_neg t1,if_pos t2]
    by_cases c2 : (y.Pending.l[i].Client==me)=true
    ·rw [if_pos c2,if_pos c2,hErr _ _ (by decide)]
     exact ⟨_,rfl,rfl⟩
    rw [if_neg c2,if_neg c2]
    obtain ⟨r,e1,e2,e3⟩:=step_eq d y.Pending.l[i] (by omega) s m b
    rw [e1,Option.bind_some,e2,Option.bind_some]
    by_cases c3 : r.2=0
    ·have c4 : ¬ (r.2 != 0)=true:=by simp [c3]
     rw [if_neg c4,if_neg c4,c3,incL hlt (by omega)]
     exact ih (i+1) r.1 g1 g2 (by omega) (by omega) (by omega) (by omega)
    ·have c4 : (r.2 != 0)=true:=by simpa using c3
     rw [if_pos c4,if_pos c4,hErr _ _ c3]
     exact ⟨_,rfl,rfl⟩
 exact key y.Pending.l.length 0 y.View FUEL FUEL (by omega) (by omega) (by unfold FUEL; omega) (by unfold FUEL; omega)
theorem checks_true (c : Affidavitlaw14_Case) (hw : c.Y.View.length≤9223372036854775807) (hs : c.Y.Seen.length≤9223372036854775807) (hA : awakeF=some true) : l14_VerifyChecks c=some true:=by
 unfold l14_VerifyChecks
 rw [ring_New_eq,Option.bind_some]
 unfold r04_New
 rw [Option.bind_some,hA,Option.bind_some,if_pos rfl]
 by_cases h1 : c.View.length≤600
 case neg=>rw [if_pos (by rw [gtB]; simp; omega)]; rfl
 rw [if_neg (by rw [gtB]; simp; omega)]
 by_cases h2 : c.Y.Pending.l.length≤12
 case neg=>rw [if_pos (by rw [gtB]; simp; omega)]; rfl
 rw [if_neg (by rw [gtB]; simp; omega)]
 obtain ⟨r,e1,e2⟩:=check_eq2 c.Me c.View c.X c.Y h1 hw hs h2 seedB Mp.none ⟨true,true,[]⟩
 have e2' : r14_Check c.Me c.View c.X c.Y (⟨[115,101,101,100],3,(⟨true,true,[]⟩ : Sl Affidavitref04_Line)⟩ : Affidavitref04_Ring)=some r:=e2
 simp only
 rw [e1,Option.bind_some,e2',Option.bind_some,if_pos (eqGot_refl _)]
 simp [l14_VerifyChecks_J1]
end Go.Proofs.YthejafdkimbddaaGreatDoor
