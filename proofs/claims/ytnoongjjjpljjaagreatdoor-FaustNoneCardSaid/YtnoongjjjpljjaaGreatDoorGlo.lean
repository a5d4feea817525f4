/- The laid variable, as the abstract runs have it. -/
import Derived.Test.YtnoongjjjpljjaaGreatDoorRows
import Derived.Test.YtnoongjjjpljjaaGreatDoorTab
import Derived.Test.YtnoongjjjpljjaaGreatDoorAbnB
import Derived.ProofKit
import Derived.LaidMore
import Derived.OpenShut
import Derived.Stop.Joined
namespace Go.Proofs.YtnoongjjjpljjaaGreatDoor
open Go.ChangeShapes Go.WideShapes Go.ChangeAt Go.RowKit Go.Abs
abbrev laidL : List (String×DataW Unit):=[("affidavit/sum.consts",Rows.laid_affidavit_sum_consts)]
theorem gConsts : Tryz.prog.globalNamed "affidavit/sum.consts"=some 0:=by kernel_rfl
theorem tConsts : (Tryz.prog.globals[0]?).map (·.type)=some 290:=by kernel_rfl
theorem door_met (os : Os) (args : Array Value) : laidMetH Tryz.prog laidL ((World.doorLaid Tryz.prog 4000 os).forCall (fun _ _=>0) ⟨#[],args,[]⟩).memory :=
 laidMetH_of_parts3 (fuel:=8) (laidMet_of_run' 8 (by kernel_rfl) (by kernel_rfl)) (by kernel_rfl) (by kernel_rfl)
theorem gok {W : World} (h : laidMetH Tryz.prog laidL W) : GOk G0 (Cx.start W):=by
 rw [MakeChecks.laidMetH_plain _ _ _ (by kernel_rfl)] at h
 obtain ⟨ps,⟨g0,t0,cs0,f0,p0,q0,hg0,ht0,hv0,hd0,_,_⟩,_,_⟩:=h
 obtain rfl:=Option.some.inj (gConsts.symm.trans hg0)
 obtain rfl:=Option.some.inj (tConsts.symm.trans ht0)
 obtain ⟨xs,m1,rfl,hx1,hlen,hn3,hel⟩:=DataW.trod_array Tryz.underlying290 hd0
 have c1 : Tryz.prog.cellsOf 279=1:=by kernel_rfl
 have hL : xs.map (·.1)=gv0.l.map fun z=>DataW.lit (.int .u32 z):=by
  have : (Rows.laid_affidavit_sum_consts : DataW Unit)=.agg (gv0.l.map fun z=>DataW.lit (.int .u32 z)):=rfl
  rw [this] at hx1
  simp only [Prod.mk.injEq,DataW.agg.injEq] at hx1
  exact hx1.1.symm
 intro g cs hg
 have hg0 : g=0∧cs=gv0c:=by
  unfold G0 at hg
  split at hg
  ·rename_i h0
   exact ⟨h0,(Option.some.inj hg).symm⟩
  ·cases hg
 obtain ⟨rfl,rfl⟩:=hg0
 have cell : ∀ i u,(gv0.l.map fun z=>Value.int .u32 z)[i]?=some u→W.cell? ⟨0,i,none⟩=some u:=fun i u hu=>by
  have hi : i < 64:=by
   have:=(List.getElem?_eq_some_iff.1 hu).1
   rw [List.length_map,gv0.h] at this
   exact this
  have h2:=hel i hi
  rw [c1,Nat.mul_one,List.getElem?_eq_getElem (by omega)] at h2
  obtain ⟨z,e1,e2,_⟩:=DataW.trod_int Tryz.underlying279 h2
  have h3 : (xs.map (·.1))[i]?=some (DataW.lit (.int .u32 z)):=by
   rw [List.getElem?_map,List.getElem?_eq_getElem (by omega),e2]
   rfl
  rw [hL,List.getElem?_map] at h3
  rw [List.getElem?_map] at hu
  cases hq : gv0.l[i]? with
  | none=>rw [hq] at hu; cases hu
  | some q =>
    rw [hq] at hu h3
    simp only [Option.map_some,Option.some.injEq,DataW.lit.injEq,Lit.int.injEq,true_and] at hu h3
    subst h3
    subst hu
    have h4:=congrArg (fun l=>l[0]?) e1
    simp only [List.getElem?_take,List.getElem?_drop] at h4
    rw [World.var?_cell gConsts hv0 i]
    simpa using h4
 refine ⟨gv0.l.map fun z=>Value.int .u32 z,by kernel_rfl,?_,cell⟩
 show 0 < W.heap.size
 exact World.block_lt_of_cell? W _ (cell 0 _ rfl)
end Go.Proofs.YtnoongjjjpljjaaGreatDoor
