/- The card of the law VerifyChecks: what its functions come to, and the plain law; joined by the row's builders. No conditions. -/
import Derived.Test.YthejafdkimbddaaGreatDoorCards
import Derived.Test.YthejafdkimbddaaGreatDoorTie
import Derived.Test.YthejafdkimbddaaGreatDoorArgC
import Derived.Test.YthejafdkimbddaaGreatDoorGlo
import Derived.Test.YthejafdkimbddaaGreatDoorMathQ
import Derived.WalkKit
import Derived.OpenShut
import Derived.Below
import Derived.SizedLaws
import Derived.SevenTiedAt
namespace Go.Proofs.YthejafdkimbddaaGreatDoor.verifyChecks
open Go.ChangeShapes Go.WideShapes Go.ChangeAt Go.RowKit Go.Abs
theorem own : ownKnob Tryz.prog.godebug=none:=by kernel_rfl
theorem laidOut : laidOutB Tryz.prog=true:=by kernel_rfl
theorem agg_of {W : World} {v : Value} {cs : List AV} (h : RL (Cx.start W) cs v.cells.toList) (hn : cs.length≠1) (hc : ∀ a∈cs,a.isCell=true) : R (Cx.start W) (.agg cs) v:=by
 have hl:=h.length
 cases v with
 | agg a =>
   simp only [R]
   exact ⟨hc,a.toList,by simp,h⟩
 | _=>exact absurd hl (fun e=>hn (by simpa [Value.cells] using e.symm))
theorem walk (v0 : Value) (W : World) (hG : GOk G0 (Cx.start W)) (h0 : ∃ c : Affidavitlaw14_Case,R (Cx.start W) (.agg (cAffidavitlaw14_Case c)) v0∧c.Y.View.length≤maxLen∧c.Y.Seen.length≤maxLen) : Calls Tryz.prog 3 #[v0] W fun e W'=>e=.returned (.bool true)∧RowKit.Below W.heap.size W W':=by
 obtain ⟨c,h0,h1,h2⟩:=h0
 exact law_calls (T:=T) tyOk (G:=G0) (f:=3) (args:=[.agg (cAffidavitlaw14_Case c)]) (b:=true) (vs:=[v0]) ((l14_VerifyChecks_ev (checks_true c (by unfold maxLen at h1; omega) (by unfold maxLen at h2; omega) rfl)).mono fun v H' h=>h.1)
  (RL.cons' h0 RL.nil') hG
set_option maxRecDepth 100000 in
theorem lifted (os : Os) (started : os.Started) (H : Type) (enc : TypeId×Value→H) :
  ReturnsInHanded {} Tryz.checked os 3 .any (fun w args=>(Rows.verifyChecksSpec.pre enc Tryz.prog Tryz.f3 [] false w args∧laidMetH Tryz.prog laidL w)∧sizedMet enc Tryz.prog Tryz.f3 (OpenSpec.ofChange Rows.verifyChecksSpec) false w args)
   (Rows.verifyChecksSpec.post enc Tryz.prog Tryz.f3 false true false false):=by
 refine returnsInHanded_of_change_and (C:=Tryz.checked) (X:=fun w _=>laidMetH Tryz.prog laidL w) (fun _ _ _ hh h=>h.of_heap hh) own started (by kernel_rfl) Tryz.func3
  (ChangeSpec.witness_shaped (enc:=enc) (C:=Tryz.checked) (os:=os) (X:=fun w _=>laidMetH Tryz.prog laidL w) false (World.doorLaid Tryz.prog 4000 os) #[.agg (#[.int .i64 0,.string ⟨#[]⟩]++#[.int .i64 0,.int .i64 0,.int .i64 0,.string ⟨#[]⟩]++Array.replicate 64 (.int .u8 0)++#[.int .i64 0,.int .i64 0,.string ⟨#[]⟩]++Array.replicate 32 (.int .u8 0)++#[.slice none 0 0,.int .i64 0,.string ⟨#[]⟩]++Array.replicate 32 (.int .u8 0)++#[.string ⟨#[]⟩]++Array.replicate 32 (.int .u8 0))] 8 rfl (World.shaped_of_RefB (by kernel_rfl) (by kernel_rfl)) (by kernel_rfl) (by kernel_rfl) (by kernel_rfl) (door_met os _)) ?_
 intro W base args ds gs before hval0 hW _ _ hL _
 have hval : ∀ (j : Nat) t v,Tryz.f3.params[j]?=some t→args[j]?=some v→Value.okWide Tryz.prog W .any base t v:=hval0
 have hW':=hW
 obtain ⟨p,q,hA0,hV,rfl,hfz,hnd⟩:=hW
 have hA : DataW.TrodAll enc Tryz.prog W 0 (fun _=>true) true Tryz.f3.params.toList args.toList ds p:=hA0
 rw [Tryz.params3] at hA hval
 obtain ⟨v0,vs0,d0,ds0,p0,q0,hargs,rfl,rfl,h0,r0⟩:=trodAll_cons hA
 obtain ⟨rfl,rfl,rfl⟩:=trodAll_nil r0
 obtain rfl : args=#[v0]:=by cases args; simp_all
 obtain ⟨rfl,rfl⟩:=trodVars_none hV
 have k0:=h0
 have lt0 : ∀ x∈p0,x.block < W.heap.size:=by obtain ⟨m,hm⟩:=k0; exact DataW.trod_lt m _ _ _ hm
 have z0 : ∃ c : Affidavitlaw14_Case,R (Cx.start W) (.agg (cAffidavitlaw14_Case c)) v0∧c.Y.View.length≤maxLen∧c.Y.Seen.length≤maxLen:=by
  obtain ⟨fuel,hf⟩:=h0
  obtain ⟨c,h2,h3⟩:=opens_case H enc W 0 true fuel _ _ hf
  exact ⟨c,agg_of h2 (by simp [cAffidavitlaw14_Case,cI,cS,cSubmit,cReply]) (cell_case c),h3⟩
 clear hA0 hval0
 refine (walk _ W (gok hL) z0).mono fun e W' ⟨he,bel⟩=>?_
 subst he
 exact ⟨_,rfl,_,_,_,[],_,[],hW',trodAll_mk1 (shut_bool Tryz.underlying4 _),(trodAll_cons_mk (Below.trod laidOut (by kernel_rfl) (of_decide_eq_true (by kernel_rfl)) k0 bel lt0) trodAll_mk0),rfl,bel.frame _,fun h=>by cases h⟩
theorem over : Rows.VerifyChecksSaid :=
 OpenClaim.holds_of_wide 3 Tryz.f3 rfl rfl rfl rfl rfl rfl rfl ⟨rfl,rfl,rfl,rfl,rfl⟩ rfl rfl rfl rfl rfl (by kernel_rfl) Tryz.func3 (by kernel_rfl)
  (of_decide_eq_true (by kernel_rfl)) (by unfold Func.isWrapper; first|(rw [if_pos (by decide +kernel)]; kernel_rfl)|(rw [if_neg (by decide +kernel)]; exact ⟨rfl,rfl⟩))
  (fun os started H enc _=>lifted os started H enc)
theorem proved : Rows.VerifyChecksCardSaid :=
 Claim7.holds_tied_plain_at .later [] [.data] true (true, "0479827324b48bb45887d0b7eda9a35b6632b3b3d2c53f6e3646124784ca1752") false
  over (fun _ h=>by cases h) (by kernel_rfl) (fun _ h=>by cases h) verifyChecks_row_tie rfl ⟨rfl,rfl⟩ (by kernel_rfl) rfl
  (fun f fn hf hfn=>by
   obtain rfl : f=3:=Option.some.inj ((show Tryz.prog.funcNamed "affidavit/affidavitlaw14.VerifyChecks"=some 3 by kernel_rfl).symm.trans hf) |>.symm
   obtain rfl : fn=Tryz.f3:=(Option.some.inj (Tryz.func3.symm.trans hfn)).symm
   exact ⟨by kernel_rfl,fun j t ht=>by
    rw [Tryz.params3] at ht
    match j,ht with
    | 0,ht=>cases ht; exact (show Tryz.prog.wantsStandIn 30=false by kernel_rfl)
    | j+1,ht=>simp at ht⟩)
  (by kernel_rfl)
end Go.Proofs.YthejafdkimbddaaGreatDoor.verifyChecks
namespace Go.Proofs.YthejafdkimbddaaGreatDoor
theorem verifyChecks_holds : Rows.VerifyChecksCardSaid:=verifyChecks.proved
end Go.Proofs.YthejafdkimbddaaGreatDoor
