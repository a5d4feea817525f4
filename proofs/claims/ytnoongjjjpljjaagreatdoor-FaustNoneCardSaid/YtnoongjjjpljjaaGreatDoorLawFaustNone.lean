/- The card of the law FaustNone: a run of the whole law, whatever its arguments hold; joined by the row's builders. No conditions. -/
import Derived.Test.YtnoongjjjpljjaaGreatDoorCards
import Derived.Test.YtnoongjjjpljjaaGreatDoorTie
import Derived.Test.YtnoongjjjpljjaaGreatDoorGlo
import Derived.Test.YtnoongjjjpljjaaGreatDoorAwk
import Derived.Test.YtnoongjjjpljjaaGreatDoorAbnC
import Derived.WalkKit
import Derived.ProofKit
import Derived.OpenShut
import Derived.Below
import Derived.SizedLaws
import Derived.SevenTiedAt
namespace Go.Proofs.YtnoongjjjpljjaaGreatDoor.faustNone
open Go.ChangeShapes Go.WideShapes Go.ChangeAt Go.RowKit Go.Abs
attribute [local irreducible] argOf kindsOf R RL
theorem own : ownKnob Tryz.prog.godebug=none:=by kernel_rfl
theorem laidOut : laidOutB Tryz.prog=true:=by kernel_rfl
theorem run (f0 f1 : Nat→Dt) : fTrue (fCall T G0 fnT.getR (knOrc knT) 90 3 [argOf Tryz.prog 35 f0,argOf Tryz.prog 9 f1] .lf 0)=true:=by kernel_rfl
theorem walk (v0 : Value) (v1 : Value) (W : World) (hG : GOk G0 (Cx.start W)) (h0 : ∃ f : Nat→Dt,R (Cx.start W) (argOf Tryz.prog 35 f) v0) (h1 : ∃ f : Nat→Dt,R (Cx.start W) (argOf Tryz.prog 9 f) v1) : Calls Tryz.prog 3 #[v0,v1] W fun e W'=>e=.returned (.bool true)∧RowKit.Below W.heap.size W W':=by
 obtain ⟨f0,h0⟩:=h0
 obtain ⟨f1,h1⟩:=h1
 exact law_calls (T:=T) tyOk (G:=G0) (f:=3) (args:=[argOf Tryz.prog 35 f0,argOf Tryz.prog 9 f1]) (b:=true) (vs:=[v0,v1]) (EvCall.mono (fun r H h=>h.1) (run_true (fCall_says (tabOk_bt fnsOk) (knOrc_says knT_ok) 90) (run f0 f1)))
  (RL.cons' h0 (RL.cons' h1 RL.nil')) hG
set_option maxRecDepth 100000 in
theorem lifted (os : Os) (started : os.Started) (H : Type) (enc : TypeId×Value→H) :
  ReturnsInHanded {} Tryz.checked os 3 .any (fun w args=>(Rows.faustNoneSpec.pre enc Tryz.prog Tryz.f3 [] false w args∧laidMetH Tryz.prog laidL w)∧sizedMet enc Tryz.prog Tryz.f3 (OpenSpec.ofChange Rows.faustNoneSpec) false w args)
   (Rows.faustNoneSpec.post enc Tryz.prog Tryz.f3 false true false false):=by
 refine returnsInHanded_of_change_and (C:=Tryz.checked) (X:=fun w _=>laidMetH Tryz.prog laidL w) (fun _ _ _ hh h=>h.of_heap hh) own started (by kernel_rfl) Tryz.func3
  (ChangeSpec.witness_shaped (enc:=enc) (C:=Tryz.checked) (os:=os) (X:=fun w _=>laidMetH Tryz.prog laidL w) false (World.doorLaid Tryz.prog 4000 os) #[.agg (#[.int .i64 0,.int .i64 0,.int .i64 0,.int .i64 0,.int .i64 0,.string ⟨#[]⟩,.int .i64 0,.int .i64 0,.int .i64 0,.int .i64 0,.int .i64 0,.string ⟨#[]⟩]++Array.replicate 64 (.int .u8 0)++#[.int .i64 0,.int .i64 0,.string ⟨#[]⟩]++Array.replicate 32 (.int .u8 0)++#[.slice none 0 0,.int .i64 0,.string ⟨#[]⟩]++Array.replicate 32 (.int .u8 0)++#[.string ⟨#[]⟩]++Array.replicate 32 (.int .u8 0)++#[.string ⟨#[]⟩,.int .i64 0]++Array.replicate 64 (.int .u8 0)++#[.int .i64 0,.int .i64 0,.string ⟨#[]⟩]++Array.replicate 32 (.int .u8 0)++#[.slice none 0 0]),.string ⟨#[]⟩] 8 rfl (World.shaped_of_RefB (by kernel_rfl) (by kernel_rfl)) (by kernel_rfl) (by kernel_rfl) (by kernel_rfl) (door_met os _)) ?_
 intro W base args ds gs before hval0 hW _ _ hL _
 have hval : ∀ (j : Nat) t v,Tryz.f3.params[j]?=some t→args[j]?=some v→Value.okWide Tryz.prog W .any base t v:=hval0
 have hW':=hW
 obtain ⟨p,q,hA0,hV,rfl,hfz,hnd⟩:=hW
 have hA : DataW.TrodAll enc Tryz.prog W 0 (fun _=>true) true Tryz.f3.params.toList args.toList ds p:=hA0
 rw [Tryz.params3] at hA hval
 obtain ⟨v0,vs0,d0,ds0,p0,q0,hargs,rfl,rfl,h0,r0⟩:=trodAll_cons hA
 obtain ⟨v1,vs1,d1,ds1,p1,q1,rfl,rfl,rfl,h1,r1⟩:=trodAll_cons r0
 obtain ⟨rfl,rfl,rfl⟩:=trodAll_nil r1
 obtain rfl : args=#[v0,v1]:=by cases args; simp_all
 obtain ⟨rfl,rfl⟩:=trodVars_none hV
 have z0:=param_open (P:=Tryz.prog) (t:=35) (by kernel_rfl) (hval 0 35 v0 rfl rfl)
 have k0:=h0
 have lt0 : ∀ x∈p0,x.block < W.heap.size:=by obtain ⟨m,hm⟩:=k0; exact DataW.trod_lt m _ _ _ hm
 have z1:=param_open (P:=Tryz.prog) (t:=9) (by kernel_rfl) (hval 1 9 v1 rfl rfl)
 have k1:=h1
 have lt1 : ∀ x∈p1,x.block < W.heap.size:=by obtain ⟨m,hm⟩:=k1; exact DataW.trod_lt m _ _ _ hm
 clear hA0 hval0
 refine (walk _ _ W (gok hL) z0 z1).mono fun e W' ⟨he,bel⟩=>?_
 subst he
 exact ⟨_,rfl,_,_,_,[],_,[],hW',trodAll_mk1 (shut_bool Tryz.underlying4 _),(trodAll_cons_mk (Below.trod laidOut (by kernel_rfl) (of_decide_eq_true (by kernel_rfl)) k0 bel lt0) (trodAll_cons_mk (Below.trod laidOut (by kernel_rfl) (of_decide_eq_true (by kernel_rfl)) k1 bel lt1) trodAll_mk0)),rfl,bel.frame _,fun h=>by cases h⟩
theorem over : Rows.FaustNoneSaid :=
 OpenClaim.holds_of_wide 3 Tryz.f3 rfl rfl rfl rfl rfl rfl rfl ⟨rfl,rfl,rfl,rfl,rfl⟩ rfl rfl rfl rfl rfl (by kernel_rfl) Tryz.func3 (by kernel_rfl)
  (of_decide_eq_true (by kernel_rfl)) (by unfold Func.isWrapper; first|(rw [if_pos (by decide +kernel)]; kernel_rfl)|(rw [if_neg (by decide +kernel)]; exact ⟨rfl,rfl⟩))
  (fun os started H enc _=>lifted os started H enc)
theorem proved : Rows.FaustNoneCardSaid :=
 Claim7.holds_tied_plain_at .later [] [.data] true (true, "de07961d54b82e4b251745cfa6e08585396052ad259be90740aaa6b7df5e9d0d") true
  over (fun _ h=>by cases h) (by kernel_rfl) (fun _ h=>by cases h) faustNone_row_tie rfl ⟨rfl,rfl⟩ (by kernel_rfl) rfl
  (fun f fn hf hfn=>by
   obtain rfl : f=3:=Option.some.inj ((show Tryz.prog.funcNamed "affidavit/affidavitlaw18.FaustNone"=some 3 by kernel_rfl).symm.trans hf) |>.symm
   obtain rfl : fn=Tryz.f3:=(Option.some.inj (Tryz.func3.symm.trans hfn)).symm
   exact ⟨by kernel_rfl,fun j t ht=>by
    rw [Tryz.params3] at ht
    match j,ht with
    | 0,ht=>cases ht; exact (show Tryz.prog.wantsStandIn 35=false by kernel_rfl)
    | 1,ht=>cases ht; exact (show Tryz.prog.wantsStandIn 9=false by kernel_rfl)
    | j+2,ht=>simp at ht⟩)
  (by kernel_rfl)
end Go.Proofs.YtnoongjjjpljjaaGreatDoor.faustNone
namespace Go.Proofs.YtnoongjjjpljjaaGreatDoor
theorem faustNone_holds : Rows.FaustNoneCardSaid:=faustNone.proved
end Go.Proofs.YtnoongjjjpljjaaGreatDoor
