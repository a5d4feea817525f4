/- What hist.Count comes to: a range over a function whose iterator counts in cells of its own. hist.Count by the kit's walk, and as an abstract call. -/
import Derived.Test.YtnoongjjjpljjaaGreatDoorAbnC
import Derived.RangeFuncBound
import Derived.RangeFuncCalls
import Derived.RangeFuncLeaves
import Derived.RangeFuncNested
import Derived.Shelf.Abstract
import Derived.Shelf.RegionOpen
import Derived.WalkKit
import Derived.OwnWalkIn
import Derived.TacticsInMore
import Derived.LoopNIn
import Derived.LoopIn
import Derived.Test.YtnoongjjjpljjaaGreatDoorTab
namespace Go.Proofs.YtnoongjjjpljjaaGreatDoor
open Go.RowKit Go.Shelf Go.Abs
attribute [local go_sem] Oper.semAt_some
set_option maxRecDepth 100000 in
set_option maxHeartbeats 2000000 in
theorem next_in (F : Fence) (n : Nat) (h195 : F.fn 195) (hro : F.round=none) (b : UInt8) (C : Nat) (w : World) (c : Int) (hc : w.cell? ⟨C,b.toNat,none⟩=some (.int .i64 c)) (hf : w.frozen? ⟨C,b.toNat,none⟩=false) :
  CallsIn F n Tryz.prog 195 #[.int .u8 (b.toNat : Int),.pointer (some ⟨C,0,none⟩)] w fun e w'=>e=.returned (.int .i64 (wrap64 (c+1)))∧w'=w.setCell ⟨C,b.toNat,none⟩ (.int .i64 (wrap64 (c+1))):=by
 refine callsIn_of_wp Tryz.func195 rfl h195 ?_ hro
 simp only [Tryz.ntmps195,List.size_toArray,List.length_cons,List.length_nil,Nat.reduceAdd,Nat.reduceSub,Array.replicate_succ,Array.replicate_zero,List.push_toArray,List.append_toArray,List.nil_append,List.cons_append]
 have hb : b.toNat < 256:=b.toNat_lt
 gi_wp2
 go_ret
 exact ⟨rfl,rfl⟩
theorem w64_in {n : Int} (h0 : 0≤n) (h1 : n < 9223372036854775808) : wrap64 n=n:=by unfold wrap64; omega
def cntB (h : List UInt8) (b : UInt8) : Nat:=(h.filter (·==b)).length
def nrm (N : Act→World→Prop) : Exit→Act→World→Prop
 | .normal,a,w=>N a w
 | _,_,_=>False
theorem gen_q {F : Fence} {n : Nat} {P : Program} {c : Code} {Q : Exit→Act→World→Prop} {a : Act} {w : World} (PP : Bool→World→Prop) (A : Bool→Act) (h : ∀ N : Act→World→Prop,(∀ bb w2,PP bb w2→N (A bb) w2)→c.wpIn F n P (nrm N) a w) (k : ∀ bb w2,PP bb w2→Q .normal (A bb) w2) : c.wpIn F n P Q a w:=by
 refine wpIn_mono (h (fun a w=>Q .normal a w) k) ?_
 intro e a w he
 cases e<;>first|exact he|exact he.elim
def opsL (h : List UInt8) : List (UInt8×Int):=(List.range h.length).map fun k=>(h.getD k 0,wrap64 (cntB (h.take (k+1)) (h.getD k 0) : Nat))
theorem opsL_len (h : List UInt8) : (opsL h).length=h.length:=by simp [opsL]
theorem opsL_take (h : List UInt8) {k : Nat} (hk : k < h.length) : (opsL h).take (k+1)=(opsL h).take k++[(h[k]'hk,wrap64 (cntB (h.take (k+1)) (h[k]'hk) : Nat))]:=by
 rw [List.take_succ_eq_append_getElem (by rw [opsL_len]; exact hk)]
 simp [opsL,hk]
set_option maxRecDepth 100000 in
set_option maxHeartbeats 4000000 in
theorem ops1_in (F : Fence) (n : Nat) (h194 : F.fn 194) (h195 : F.fn 195) (hro : F.round=none) (hn : 1≤n) (h : List UInt8) (hlen : h.length < 4611686018427387904) (B : Nat) (l : Nat) (J Jx : List (UInt8×Int)→World→Prop) (W : World) (hB : W.cell? ⟨B,0,none⟩=some (.string ⟨h.toArray⟩)) (hBl : B < W.heap.size) (hJ : OwnC W.heap.size J) (_hJx : OwnC W.heap.size Jx) (hJK : ∀ s W1,J s W1→W1.cell? ⟨B,0,none⟩=some (.string ⟨h.toArray⟩))
  (hY : ∀ pre x W1,J pre W1→pre++[x] <+: opsL h→YieldAt F (n - 1) Tryz.prog l #[.int .i64 (IntKind.wrap .i64 (x.1.toNat : Int)),.int .i64 x.2] W1 fun e W' =>
   (e=.returned (.bool true)∧J (pre++[x]) W'∧KpC W.heap.size W1 W')∨(e=.returned (.bool false)∧Jx (pre++[x]) W')) (h0 : J [] W) :
  CallsIn F n Tryz.prog 194 #[.func (.yield l) #[] #[],.pointer (some ⟨B,0,none⟩)] W fun e W'=>(∃ v,e=.returned v)∧(J (opsL h) W'∨∃ pre,pre <+: opsL h∧Jx pre W'):=by
 refine callsIn_of_wp Tryz.func194 rfl h194 ?_ hro
 simp only [Tryz.ntmps194,List.size_toArray,List.length_cons,List.length_nil,Nat.reduceAdd,Nat.reduceSub,Array.replicate_succ,Array.replicate_zero,List.push_toArray,List.append_toArray,List.nil_append,List.cons_append]
 gi_wp2
 gi_loopw [9] (fun i wr=>∃ k : Nat,k≤h.length∧i=.int .i64 k∧J ((opsL h).take k) wr∧W.heap.size < wr.heap.size∧wr.cell? ⟨B,0,none⟩=some (.string ⟨h.toArray⟩)∧∀ b : UInt8,wr.cell? ⟨W.heap.size,b.toNat,none⟩=some (.int .i64 (wrap64 (cntB (h.take k) b : Nat)))∧wr.frozen? ⟨W.heap.size,b.toNat,none⟩=false)
  (fun i _=>h.length - (intOf i).toNat)
 case atStart =>
  have hz : Tryz.zeroCells276=Array.replicate 256 (Value.int .i64 0):=by kernel_rfl
  refine ⟨0,Nat.zero_le _,rfl,hJ _ _ _ h0 ((Below.refl _ W).alloc (Nat.le_refl _) _),by simp,(World.cell?_of_block (Below.heap_alloc _ _ _ hBl)).trans hB,fun b=>?_⟩
  have hb : b.toNat < 256:=b.toNat_lt
  have hn:=World.alloc_heap_new W (.cells Tryz.zeroCells276 276)
  constructor
  ·have e : (W.alloc (.cells Tryz.zeroCells276 276)).cell? ⟨W.heap.size,b.toNat,none⟩=Tryz.zeroCells276[b.toNat]?:=by
    unfold World.cell?
    rw [hn]
    rfl
   rw [e,hz,Array.getElem?_replicate,if_pos hb,List.take_zero]
   simp [cntB,wrap64]
  ·unfold World.frozen?
   rw [hn]
   rfl
 case round =>
  obtain ⟨k,hk,rfl,hJs,hsz,hBx,hcs⟩:=hrel
  by_cases hlt : k < h.length
  ·have hltb : k < (ByteArray.mk h.toArray).size:=by simpa [ByteArray.size] using hlt
   have hEb : (ByteArray.mk h.toArray)[k]'hltb=h[k]'hlt:=by
    show h.toArray[k]'_=_
    simp
   obtain ⟨hc1,hf1⟩:=hcs (h[k]'hlt)
   have hnum : wrap64 (wrap64 (cntB (h.take k) (h[k]'hlt) : Nat)+1)=wrap64 (cntB (h.take (k+1)) (h[k]'hlt) : Nat):=by
    have e : cntB (h.take (k+1)) (h[k]'hlt)=cntB (h.take k) (h[k]'hlt)+1:=by
     unfold cntB
     rw [List.take_succ_eq_append_getElem hlt,List.filter_append,List.length_append]
     simp
    have hle : cntB (h.take k) (h[k]'hlt)≤k:=by
     have:=List.length_filter_le (·==h[k]'hlt) (h.take k)
     rw [List.length_take] at this
     unfold cntB
     omega
    have hw : wrap64 (cntB (h.take k) (h[k]'hlt) : Nat)=(cntB (h.take k) (h[k]'hlt) : Nat):=w64_in (by omega) (by omega)
    rw [e,hw]
    exact congrArg wrap64 (Int.natCast_add _ 1).symm
   have hc2 : wr.drew.cell? ⟨W.heap.size,((ByteArray.mk h.toArray)[k]'hltb).toNat,none⟩=some (.int .i64 (wrap64 (cntB (h.take k) (h[k]'hlt) : Nat))):=by rw [hEb]; exact hc1
   have hf2 : wr.drew.frozen? ⟨W.heap.size,((ByteArray.mk h.toArray)[k]'hltb).toNat,none⟩=false:=by rw [hEb]; exact hf1
   have hnx:=next_in F (n - 1) h195 hro ((ByteArray.mk h.toArray)[k]'hltb) W.heap.size wr.drew _ hc2 hf2
   rw [hnum] at hnx
   obtain ⟨W1,hW1⟩ : ∃ W1,wr.drew.setCell ⟨W.heap.size,((ByteArray.mk h.toArray)[k]'hltb).toNat,none⟩ (.int .i64 (wrap64 (cntB (h.take (k+1)) (h[k]'hlt) : Nat)))=W1:=⟨_,rfl⟩
   rw [hW1] at hnx
   have hBx1 : W1.cell? ⟨B,0,none⟩=some (.string ⟨h.toArray⟩):=by
    rw [← hW1,World.cell?_setCell_other _ _ _ _ (fun e=>by have:=congrArg Addr.block e; simp at this; omega)]
    exact hBx
   obtain ⟨fn,tmps,assign,body,hy,hR⟩:=hY _ (h[k]'hlt,wrap64 (cntB (h.take (k+1)) (h[k]'hlt) : Nat)) W1 (hJ _ _ _ hJs (by rw [← hW1]; exact Below.setCell (B:=W.heap.size) (a:=wr) (w:=wr.drew) ⟨rfl,rfl,rfl,Nat.le_refl _,fun _ _=>rfl⟩ (Nat.le_refl _) _)) (by rw [← opsL_take h hlt]; exact List.take_prefix _ _)
   dsimp only at hy
   have hm : Tryz.prog.follows .mixedOrders=true:=by kernel_rfl
   gi_wp2
   obtain ⟨PP,hPP⟩ : ∃ PP : Bool→World→Prop,PP=fun bb W'=>(bb=true∧J ((opsL h).take k++[(h[k]'hlt,wrap64 (cntB (h.take (k+1)) (h[k]'hlt) : Nat))]) W'∧KpC W.heap.size W1 W')∨(bb=false∧Jx ((opsL h).take k++[(h[k]'hlt,wrap64 (cntB (h.take (k+1)) (h[k]'hlt) : Nat))]) W'):=⟨_,rfl⟩
   have hR2 : RoundIn F (n - 1) Tryz.prog l fn tmps assign body W1 fun e W'=>∃ bb,e=.returned (.bool bb)∧PP bb W':=hR.mono fun e W' hh=>by
    rw [hPP]
    rcases hh with ⟨rfl,h1,h2⟩|⟨rfl,h1⟩
    ·exact ⟨true,rfl,.inl ⟨rfl,h1,h2⟩⟩
    ·exact ⟨false,rfl,.inr ⟨rfl,h1⟩⟩
   have hX : PLift (∀ b : UInt8,wr.cell? ⟨W.heap.size,b.toNat,none⟩=some (.int .i64 (wrap64 (cntB (h.take k) b : Nat)))∧wr.frozen? ⟨W.heap.size,b.toNat,none⟩=false):=⟨hcs⟩
   clear hR hY hcs
   have hT : ∀ W',PP true W'→J ((opsL h).take k++[(h[k]'hlt,wrap64 (cntB (h.take (k+1)) (h[k]'hlt) : Nat))]) W'∧KpC W.heap.size W1 W':=fun W' hp=>by
    rw [hPP] at hp
    rcases hp with ⟨_,h1⟩|⟨hc,_⟩
    ·exact h1
    ·simp at hc
   have hFa : ∀ W',PP false W'→Jx ((opsL h).take k++[(h[k]'hlt,wrap64 (cntB (h.take (k+1)) (h[k]'hlt) : Nat))]) W':=fun W' hp=>by
    rw [hPP] at hp
    rcases hp with ⟨hc,_⟩|⟨_,h1⟩
    ·simp at hc
    ·exact h1
   clear hPP
   refine gen_q PP (fun bb=>⟨#[Value.func (Fn.yield l) #[] #[],Value.pointer (some { block:=B,off:=0 }),undef,
       Value.pointer (some { block:=W.heap.size,off:=0 }),
       Value.func (Fn.func 195) #[] #[Value.pointer (some { block:=W.heap.size,off:=0 })],
       Value.int IntKind.i64 ↑k,
       Value.func (Fn.func 195) #[] #[Value.pointer (some { block:=W.heap.size,off:=0 })],
       Value.string { data:=h.toArray },Value.int IntKind.i64 ↑h.length,Value.int IntKind.i64 ↑k,
       Value.bool true,Value.int IntKind.i64 ↑k,Value.func (Fn.yield l) #[] #[],
       Value.string { data:=h.toArray },Value.int IntKind.i64 ↑k,Value.int IntKind.u8 ↑h[k].toNat,
       Value.int IntKind.i64 (IntKind.i64.wrap ↑h[k].toNat),
       Value.func (Fn.func 195) #[] #[Value.pointer (some { block:=W.heap.size,off:=0 })],
       Value.string { data:=h.toArray },Value.int IntKind.i64 ↑k,Value.int IntKind.u8 ↑h[k].toNat,
       Value.int IntKind.i64 (wrap64 ↑(cntB (List.take (k+1) h) h[k])),Value.bool bb,.bool (!bb),u24],[]⟩) ?_ ?_
   case _ =>
    intro N hQ
    refine wpIn_region_any hm ?_
    change wpAnyIn _ _ _ _ _ _ _ _ _ (World.drew _)
    refine wpAnyIn_take (i:=0) (v:=?_) hro rfl (by kernel_rfl) (by kernel_rfl) (by kernel_rfl) (fun _ _ _ h=>h) ⟨Or.inl ⟨by rfl,?_⟩,fun _=>rfl⟩ ?_
    rotate_left
    ·intro w; go_simp; try with_reducible rfl
    refine wpAnyIn_take (i:=2) (v:=?_) hro rfl (by kernel_rfl) (by kernel_rfl) (by kernel_rfl) (fun _ _ _ h=>h) ⟨Or.inl ⟨by rfl,?_⟩,fun _=>rfl⟩ ?_
    rotate_left
    ·intro w; go_simp; try with_reducible rfl
    refine wpAnyIn_take (i:=5) (v:=?_) hro rfl (by kernel_rfl) (by kernel_rfl) (by kernel_rfl) (fun _ _ _ h=>h) ⟨Or.inl ⟨by rfl,?_⟩,fun _=>rfl⟩ ?_
    rotate_left
    ·intro w; go_simp; try with_reducible rfl
    refine wpAnyIn_take (i:=7) (v:=?_) hro rfl (by kernel_rfl) (by kernel_rfl) (by kernel_rfl) (fun _ _ _ h=>h) ⟨Or.inl ⟨by rfl,?_⟩,fun _=>rfl⟩ ?_
    rotate_left
    ·intro w; go_simp; try with_reducible rfl
    refine wpAnyIn_ready (rs:=[1,6]) (by kernel_rfl) (by simp) ?_
    refine AllReadyIn.cons rfl (fun K hK=>?_) ?_
    ·
     go_simp
     try (refine hK _ _ ?_; clear hK K)
     refine wpAnyIn_ready (rs:=[3,6]) (by kernel_rfl) (by simp) ?_
     refine AllReadyIn.cons rfl (fun K hK=>?_) ?_
     ·
      go_simp
      try (refine hK _ _ ?_; clear hK K)
      refine wpAnyIn_take (i:=4) (v:=?_) hro rfl (by kernel_rfl) (by kernel_rfl) (by kernel_rfl) (fun _ _ _ h=>h) ⟨Or.inl ⟨by rfl,?_⟩,fun _=>rfl⟩ ?_
      rotate_left
      ·intro w; go_simp; try with_reducible rfl
      refine wpAnyIn_ready (rs:=[6]) (by kernel_rfl) (by simp) ?_
      refine AllReadyIn.cons rfl (fun K hK=>?_) ?_
      ·
       go_simp
       try (refine hK _ _ ?_; clear hK K)
       refine wpAnyIn_ready (rs:=[8]) (by kernel_rfl) (by simp) ?_
       refine AllReadyIn.cons rfl (fun K hK=>?_) ?_
       ·
        go_simp
        try (refine hK _ _ ?_; clear hK K)
        refine wpAnyIn_ready (rs:=[9]) (by kernel_rfl) (by simp) ?_
        refine AllReadyIn.cons rfl (fun K hK=>?_) ?_
        ·
         go_simp
         gi_wp2_with (gi_at_call 195; refine hnx.mono ?_; rintro e w' ⟨rfl,rfl⟩)
         try (refine hK _ _ ?_; clear hK K)
         refine wpAnyIn_ready (rs:=[10]) (by kernel_rfl) (by simp) ?_
         refine AllReadyIn.cons rfl (fun K hK=>?_) ?_
         ·
          go_simp
          gi_wp2_with (with_reducible refine RoundIn.mono hR2 ?_; rintro e w2 ⟨bb,rfl,hP⟩)
          try (refine hK _ _ ?_; clear hK K)
          refine wpAnyIn_take (i:=11) (v:=?_) hro rfl (by kernel_rfl) (by kernel_rfl) (by kernel_rfl) (fun _ _ _ h=>h) ⟨Or.inl ⟨by rfl,?_⟩,fun _=>rfl⟩ ?_
          rotate_left
          ·intro w; go_simp; try with_reducible rfl
          refine wpAnyIn_done (by kernel_rfl) ?_ _
          exact hQ _ _ hP
         exact AllReadyIn.nil
        exact AllReadyIn.nil
       exact AllReadyIn.nil
      exact AllReadyIn.nil
     refine AllReadyIn.cons rfl (fun K hK=>?_) ?_
     ·
      go_simp
      try (refine hK _ _ ?_; clear hK K)
      refine wpAnyIn_ready (rs:=[3,8]) (by kernel_rfl) (by simp) ?_
      refine AllReadyIn.cons rfl (fun K hK=>?_) ?_
      ·
       go_simp
       try (refine hK _ _ ?_; clear hK K)
       refine wpAnyIn_take (i:=4) (v:=?_) hro rfl (by kernel_rfl) (by kernel_rfl) (by kernel_rfl) (fun _ _ _ h=>h) ⟨Or.inl ⟨by rfl,?_⟩,fun _=>rfl⟩ ?_
       rotate_left
       ·intro w; go_simp; try with_reducible rfl
       refine wpAnyIn_ready (rs:=[8]) (by kernel_rfl) (by simp) ?_
       refine AllReadyIn.cons rfl (fun K hK=>?_) ?_
       ·
        go_simp
        try (refine hK _ _ ?_; clear hK K)
        refine wpAnyIn_ready (rs:=[9]) (by kernel_rfl) (by simp) ?_
        refine AllReadyIn.cons rfl (fun K hK=>?_) ?_
        ·
         go_simp
         gi_wp2_with (gi_at_call 195; refine hnx.mono ?_; rintro e w' ⟨rfl,rfl⟩)
         try (refine hK _ _ ?_; clear hK K)
         refine wpAnyIn_ready (rs:=[10]) (by kernel_rfl) (by simp) ?_
         refine AllReadyIn.cons rfl (fun K hK=>?_) ?_
         ·
          go_simp
          gi_wp2_with (with_reducible refine RoundIn.mono hR2 ?_; rintro e w2 ⟨bb,rfl,hP⟩)
          try (refine hK _ _ ?_; clear hK K)
          refine wpAnyIn_take (i:=11) (v:=?_) hro rfl (by kernel_rfl) (by kernel_rfl) (by kernel_rfl) (fun _ _ _ h=>h) ⟨Or.inl ⟨by rfl,?_⟩,fun _=>rfl⟩ ?_
          rotate_left
          ·intro w; go_simp; try with_reducible rfl
          refine wpAnyIn_done (by kernel_rfl) ?_ _
          exact hQ _ _ hP
         exact AllReadyIn.nil
        exact AllReadyIn.nil
       exact AllReadyIn.nil
      refine AllReadyIn.cons rfl (fun K hK=>?_) ?_
      ·
       go_simp
       try (refine hK _ _ ?_; clear hK K)
       refine wpAnyIn_ready (rs:=[3,9]) (by kernel_rfl) (by simp) ?_
       refine AllReadyIn.cons rfl (fun K hK=>?_) ?_
       ·
        go_simp
        try (refine hK _ _ ?_; clear hK K)
        refine wpAnyIn_take (i:=4) (v:=?_) hro rfl (by kernel_rfl) (by kernel_rfl) (by kernel_rfl) (fun _ _ _ h=>h) ⟨Or.inl ⟨by rfl,?_⟩,fun _=>rfl⟩ ?_
        rotate_left
        ·intro w; go_simp; try with_reducible rfl
        refine wpAnyIn_ready (rs:=[9]) (by kernel_rfl) (by simp) ?_
        refine AllReadyIn.cons rfl (fun K hK=>?_) ?_
        ·
         go_simp
         gi_wp2_with (gi_at_call 195; refine hnx.mono ?_; rintro e w' ⟨rfl,rfl⟩)
         try (refine hK _ _ ?_; clear hK K)
         refine wpAnyIn_ready (rs:=[10]) (by kernel_rfl) (by simp) ?_
         refine AllReadyIn.cons rfl (fun K hK=>?_) ?_
         ·
          go_simp
          gi_wp2_with (with_reducible refine RoundIn.mono hR2 ?_; rintro e w2 ⟨bb,rfl,hP⟩)
          try (refine hK _ _ ?_; clear hK K)
          refine wpAnyIn_take (i:=11) (v:=?_) hro rfl (by kernel_rfl) (by kernel_rfl) (by kernel_rfl) (fun _ _ _ h=>h) ⟨Or.inl ⟨by rfl,?_⟩,fun _=>rfl⟩ ?_
          rotate_left
          ·intro w; go_simp; try with_reducible rfl
          refine wpAnyIn_done (by kernel_rfl) ?_ _
          exact hQ _ _ hP
         exact AllReadyIn.nil
        exact AllReadyIn.nil
       refine AllReadyIn.cons rfl (fun K hK=>?_) ?_
       ·
        go_simp
        gi_wp2_with (gi_at_call 195; refine hnx.mono ?_; rintro e w' ⟨rfl,rfl⟩)
        try (refine hK _ _ ?_; clear hK K)
        refine wpAnyIn_ready (rs:=[3]) (by kernel_rfl) (by simp) ?_
        refine AllReadyIn.cons rfl (fun K hK=>?_) ?_
        ·
         go_simp
         try (refine hK _ _ ?_; clear hK K)
         refine wpAnyIn_take (i:=4) (v:=?_) hro rfl (by kernel_rfl) (by kernel_rfl) (by kernel_rfl) (fun _ _ _ h=>h) ⟨Or.inl ⟨by rfl,?_⟩,fun _=>rfl⟩ ?_
         rotate_left
         ·intro w; go_simp; try with_reducible rfl
         refine wpAnyIn_ready (rs:=[10]) (by kernel_rfl) (by simp) ?_
         refine AllReadyIn.cons rfl (fun K hK=>?_) ?_
         ·
          go_simp
          gi_wp2_with (with_reducible refine RoundIn.mono hR2 ?_; rintro e w2 ⟨bb,rfl,hP⟩)
          try (refine hK _ _ ?_; clear hK K)
          refine wpAnyIn_take (i:=11) (v:=?_) hro rfl (by kernel_rfl) (by kernel_rfl) (by kernel_rfl) (fun _ _ _ h=>h) ⟨Or.inl ⟨by rfl,?_⟩,fun _=>rfl⟩ ?_
          rotate_left
          ·intro w; go_simp; try with_reducible rfl
          refine wpAnyIn_done (by kernel_rfl) ?_ _
          exact hQ _ _ hP
         exact AllReadyIn.nil
        exact AllReadyIn.nil
       exact AllReadyIn.nil
      exact AllReadyIn.nil
     exact AllReadyIn.nil
    refine AllReadyIn.cons rfl (fun K hK=>?_) ?_
    ·
     go_simp
     try (refine hK _ _ ?_; clear hK K)
     refine wpAnyIn_ready (rs:=[1,8]) (by kernel_rfl) (by simp) ?_
     refine AllReadyIn.cons rfl (fun K hK=>?_) ?_
     ·
      go_simp
      try (refine hK _ _ ?_; clear hK K)
      refine wpAnyIn_ready (rs:=[3,8]) (by kernel_rfl) (by simp) ?_
      refine AllReadyIn.cons rfl (fun K hK=>?_) ?_
      ·
       go_simp
       try (refine hK _ _ ?_; clear hK K)
       refine wpAnyIn_take (i:=4) (v:=?_) hro rfl (by kernel_rfl) (by kernel_rfl) (by kernel_rfl) (fun _ _ _ h=>h) ⟨Or.inl ⟨by rfl,?_⟩,fun _=>rfl⟩ ?_
       rotate_left
       ·intro w; go_simp; try with_reducible rfl
       refine wpAnyIn_ready (rs:=[8]) (by kernel_rfl) (by simp) ?_
       refine AllReadyIn.cons rfl (fun K hK=>?_) ?_
       ·
        go_simp
        try (refine hK _ _ ?_; clear hK K)
        refine wpAnyIn_ready (rs:=[9]) (by kernel_rfl) (by simp) ?_
        refine AllReadyIn.cons rfl (fun K hK=>?_) ?_
        ·
         go_simp
         gi_wp2_with (gi_at_call 195; refine hnx.mono ?_; rintro e w' ⟨rfl,rfl⟩)
         try (refine hK _ _ ?_; clear hK K)
         refine wpAnyIn_ready (rs:=[10]) (by kernel_rfl) (by simp) ?_
         refine AllReadyIn.cons rfl (fun K hK=>?_) ?_
         ·
          go_simp
          gi_wp2_with (with_reducible refine RoundIn.mono hR2 ?_; rintro e w2 ⟨bb,rfl,hP⟩)
          try (refine hK _ _ ?_; clear hK K)
          refine wpAnyIn_take (i:=11) (v:=?_) hro rfl (by kernel_rfl) (by kernel_rfl) (by kernel_rfl) (fun _ _ _ h=>h) ⟨Or.inl ⟨by rfl,?_⟩,fun _=>rfl⟩ ?_
          rotate_left
          ·intro w; go_simp; try with_reducible rfl
          refine wpAnyIn_done (by kernel_rfl) ?_ _
          exact hQ _ _ hP
         exact AllReadyIn.nil
        exact AllReadyIn.nil
       exact AllReadyIn.nil
      refine AllReadyIn.cons rfl (fun K hK=>?_) ?_
      ·
       go_simp
       try (refine hK _ _ ?_; clear hK K)
       refine wpAnyIn_ready (rs:=[3,9]) (by kernel_rfl) (by simp) ?_
       refine AllReadyIn.cons rfl (fun K hK=>?_) ?_
       ·
        go_simp
        try (refine hK _ _ ?_; clear hK K)
        refine wpAnyIn_take (i:=4) (v:=?_) hro rfl (by kernel_rfl) (by kernel_rfl) (by kernel_rfl) (fun _ _ _ h=>h) ⟨Or.inl ⟨by rfl,?_⟩,fun _=>rfl⟩ ?_
        rotate_left
        ·intro w; go_simp; try with_reducible rfl
        refine wpAnyIn_ready (rs:=[9]) (by kernel_rfl) (by simp) ?_
        refine AllReadyIn.cons rfl (fun K hK=>?_) ?_
        ·
         go_simp
         gi_wp2_with (gi_at_call 195; refine hnx.mono ?_; rintro e w' ⟨rfl,rfl⟩)
         try (refine hK _ _ ?_; clear hK K)
         refine wpAnyIn_ready (rs:=[10]) (by kernel_rfl) (by simp) ?_
         refine AllReadyIn.cons rfl (fun K hK=>?_) ?_
         ·
          go_simp
          gi_wp2_with (with_reducible refine RoundIn.mono hR2 ?_; rintro e w2 ⟨bb,rfl,hP⟩)
          try (refine hK _ _ ?_; clear hK K)
          refine wpAnyIn_take (i:=11) (v:=?_) hro rfl (by kernel_rfl) (by kernel_rfl) (by kernel_rfl) (fun _ _ _ h=>h) ⟨Or.inl ⟨by rfl,?_⟩,fun _=>rfl⟩ ?_
          rotate_left
          ·intro w; go_simp; try with_reducible rfl
          refine wpAnyIn_done (by kernel_rfl) ?_ _
          exact hQ _ _ hP
         exact AllReadyIn.nil
        exact AllReadyIn.nil
       refine AllReadyIn.cons rfl (fun K hK=>?_) ?_
       ·
        go_simp
        gi_wp2_with (gi_at_call 195; refine hnx.mono ?_; rintro e w' ⟨rfl,rfl⟩)
        try (refine hK _ _ ?_; clear hK K)
        refine wpAnyIn_ready (rs:=[3]) (by kernel_rfl) (by simp) ?_
        refine AllReadyIn.cons rfl (fun K hK=>?_) ?_
        ·
         go_simp
         try (refine hK _ _ ?_; clear hK K)
         refine wpAnyIn_take (i:=4) (v:=?_) hro rfl (by kernel_rfl) (by kernel_rfl) (by kernel_rfl) (fun _ _ _ h=>h) ⟨Or.inl ⟨by rfl,?_⟩,fun _=>rfl⟩ ?_
         rotate_left
         ·intro w; go_simp; try with_reducible rfl
         refine wpAnyIn_ready (rs:=[10]) (by kernel_rfl) (by simp) ?_
         refine AllReadyIn.cons rfl (fun K hK=>?_) ?_
         ·
          go_simp
          gi_wp2_with (with_reducible refine RoundIn.mono hR2 ?_; rintro e w2 ⟨bb,rfl,hP⟩)
          try (refine hK _ _ ?_; clear hK K)
          refine wpAnyIn_take (i:=11) (v:=?_) hro rfl (by kernel_rfl) (by kernel_rfl) (by kernel_rfl) (fun _ _ _ h=>h) ⟨Or.inl ⟨by rfl,?_⟩,fun _=>rfl⟩ ?_
          rotate_left
          ·intro w; go_simp; try with_reducible rfl
          refine wpAnyIn_done (by kernel_rfl) ?_ _
          exact hQ _ _ hP
         exact AllReadyIn.nil
        exact AllReadyIn.nil
       exact AllReadyIn.nil
      exact AllReadyIn.nil
     refine AllReadyIn.cons rfl (fun K hK=>?_) ?_
     ·
      go_simp
      try (refine hK _ _ ?_; clear hK K)
      refine wpAnyIn_ready (rs:=[1,9]) (by kernel_rfl) (by simp) ?_
      refine AllReadyIn.cons rfl (fun K hK=>?_) ?_
      ·
       go_simp
       try (refine hK _ _ ?_; clear hK K)
       refine wpAnyIn_ready (rs:=[3,9]) (by kernel_rfl) (by simp) ?_
       refine AllReadyIn.cons rfl (fun K hK=>?_) ?_
       ·
        go_simp
        try (refine hK _ _ ?_; clear hK K)
        refine wpAnyIn_take (i:=4) (v:=?_) hro rfl (by kernel_rfl) (by kernel_rfl) (by kernel_rfl) (fun _ _ _ h=>h) ⟨Or.inl ⟨by rfl,?_⟩,fun _=>rfl⟩ ?_
        rotate_left
        ·intro w; go_simp; try with_reducible rfl
        refine wpAnyIn_ready (rs:=[9]) (by kernel_rfl) (by simp) ?_
        refine AllReadyIn.cons rfl (fun K hK=>?_) ?_
        ·
         go_simp
         gi_wp2_with (gi_at_call 195; refine hnx.mono ?_; rintro e w' ⟨rfl,rfl⟩)
         try (refine hK _ _ ?_; clear hK K)
         refine wpAnyIn_ready (rs:=[10]) (by kernel_rfl) (by simp) ?_
         refine AllReadyIn.cons rfl (fun K hK=>?_) ?_
         ·
          go_simp
          gi_wp2_with (with_reducible refine RoundIn.mono hR2 ?_; rintro e w2 ⟨bb,rfl,hP⟩)
          try (refine hK _ _ ?_; clear hK K)
          refine wpAnyIn_take (i:=11) (v:=?_) hro rfl (by kernel_rfl) (by kernel_rfl) (by kernel_rfl) (fun _ _ _ h=>h) ⟨Or.inl ⟨by rfl,?_⟩,fun _=>rfl⟩ ?_
          rotate_left
          ·intro w; go_simp; try with_reducible rfl
          refine wpAnyIn_done (by kernel_rfl) ?_ _
          exact hQ _ _ hP
         exact AllReadyIn.nil
        exact AllReadyIn.nil
       refine AllReadyIn.cons rfl (fun K hK=>?_) ?_
       ·
        go_simp
        gi_wp2_with (gi_at_call 195; refine hnx.mono ?_; rintro e w' ⟨rfl,rfl⟩)
        try (refine hK _ _ ?_; clear hK K)
        refine wpAnyIn_ready (rs:=[3]) (by kernel_rfl) (by simp) ?_
        refine AllReadyIn.cons rfl (fun K hK=>?_) ?_
        ·
         go_simp
         try (refine hK _ _ ?_; clear hK K)
         refine wpAnyIn_take (i:=4) (v:=?_) hro rfl (by kernel_rfl) (by kernel_rfl) (by kernel_rfl) (fun _ _ _ h=>h) ⟨Or.inl ⟨by rfl,?_⟩,fun _=>rfl⟩ ?_
         rotate_left
         ·intro w; go_simp; try with_reducible rfl
         refine wpAnyIn_ready (rs:=[10]) (by kernel_rfl) (by simp) ?_
         refine AllReadyIn.cons rfl (fun K hK=>?_) ?_
         ·
          go_simp
          gi_wp2_with (with_reducible refine RoundIn.mono hR2 ?_; rintro e w2 ⟨bb,rfl,hP⟩)
          try (refine hK _ _ ?_; clear hK K)
          refine wpAnyIn_take (i:=11) (v:=?_) hro rfl (by kernel_rfl) (by kernel_rfl) (by kernel_rfl) (fun _ _ _ h=>h) ⟨Or.inl ⟨by rfl,?_⟩,fun _=>rfl⟩ ?_
          rotate_left
          ·intro w; go_simp; try with_reducible rfl
          refine wpAnyIn_done (by kernel_rfl) ?_ _
          exact hQ _ _ hP
         exact AllReadyIn.nil
        exact AllReadyIn.nil
       exact AllReadyIn.nil
      refine AllReadyIn.cons rfl (fun K hK=>?_) ?_
      ·
       go_simp
       gi_wp2_with (gi_at_call 195; refine hnx.mono ?_; rintro e w' ⟨rfl,rfl⟩)
       try (refine hK _ _ ?_; clear hK K)
       refine wpAnyIn_ready (rs:=[1]) (by kernel_rfl) (by simp) ?_
       refine AllReadyIn.cons rfl (fun K hK=>?_) ?_
       ·
        go_simp
        try (refine hK _ _ ?_; clear hK K)
        refine wpAnyIn_ready (rs:=[3]) (by kernel_rfl) (by simp) ?_
        refine AllReadyIn.cons rfl (fun K hK=>?_) ?_
        ·
         go_simp
         try (refine hK _ _ ?_; clear hK K)
         refine wpAnyIn_take (i:=4) (v:=?_) hro rfl (by kernel_rfl) (by kernel_rfl) (by kernel_rfl) (fun _ _ _ h=>h) ⟨Or.inl ⟨by rfl,?_⟩,fun _=>rfl⟩ ?_
         rotate_left
         ·intro w; go_simp; try with_reducible rfl
         refine wpAnyIn_ready (rs:=[10]) (by kernel_rfl) (by simp) ?_
         refine AllReadyIn.cons rfl (fun K hK=>?_) ?_
         ·
          go_simp
          gi_wp2_with (with_reducible refine RoundIn.mono hR2 ?_; rintro e w2 ⟨bb,rfl,hP⟩)
          try (refine hK _ _ ?_; clear hK K)
          refine wpAnyIn_take (i:=11) (v:=?_) hro rfl (by kernel_rfl) (by kernel_rfl) (by kernel_rfl) (fun _ _ _ h=>h) ⟨Or.inl ⟨by rfl,?_⟩,fun _=>rfl⟩ ?_
          rotate_left
          ·intro w; go_simp; try with_reducible rfl
          refine wpAnyIn_done (by kernel_rfl) ?_ _
          exact hQ _ _ hP
         exact AllReadyIn.nil
        exact AllReadyIn.nil
       exact AllReadyIn.nil
      exact AllReadyIn.nil
     exact AllReadyIn.nil
    exact AllReadyIn.nil
   case _ =>
    intro bb w2 hP
    cases bb with
    | true =>
      obtain ⟨hJ1,hK1⟩:=hT w2 hP
      gi_wp2
      refine ⟨⟨_,_,_,_,_,_,_,_,_,_,_,_,_,_,_,_,_,⟨k+1,by omega,by simp,by rw [opsL_take h hlt]; exact hJ1,?_,hJK _ _ hJ1,fun b=>?_⟩,rfl⟩,?_⟩
      ·exact Nat.lt_of_lt_of_le (by rw [← hW1]; simpa [World.setCell] using hsz) hK1.1
      ·obtain ⟨c1,c2⟩:=hX.down b
       have hbl:=hK1.2.2.2.2 W.heap.size (Nat.le_refl _) (by rw [← hW1]; simpa [World.setCell] using hsz)
       refine ⟨(World.cell?_of_block hbl).trans ?_,(World.frozen?_of_block hbl).trans ?_⟩
       ·rw [← hW1,hEb]
        by_cases hbe : h[k]=b
        ·subst hbe
         exact World.cell?_setCell_same _ _ _ (u:=.int .i64 (wrap64 (cntB (h.take k) (h[k]'hlt) : Nat))) c1
        ·have hne : h[k].toNat≠b.toNat:=fun e=>hbe (UInt8.toNat_inj.1 e)
         rw [World.cell?_setCell_other _ _ _ _ (fun e=>hne (congrArg (fun a=>a.off) e))]
         have e : cntB (h.take (k+1)) b=cntB (h.take k) b:=by
          unfold cntB
          rw [List.take_succ_eq_append_getElem hlt,List.filter_append,List.length_append]
          simp [hbe]
         rw [e]
         exact c1
       ·rw [← hW1,World.frozen?_setCell]
        exact c2
      ·simp [intOf]
       omega
    | false =>
      have hJx1:=hFa w2 hP
      gi_wp2
      refine ⟨rfl,_,results_none rfl _ _ _,⟨_,rfl⟩,.inr ⟨_,?_,hJx1⟩⟩
      rw [← opsL_take h hlt]
      exact List.take_prefix _ _
  ·obtain rfl : k=h.length:=by omega
   gi_wp2
   go_end0
   refine ⟨⟨_,rfl⟩,.inl ?_⟩
   rw [← opsL_len,List.take_length] at hJs
   exact hJs
end Go.Proofs.YtnoongjjjpljjaaGreatDoor
namespace Go.Proofs.YtnoongjjjpljjaaGreatDoor
open Go.RowKit Go.Shelf Go.Abs
attribute [local go_sem] Oper.semAt_some
set_option maxRecDepth 100000 in
theorem opsF_in (F : Fence) (n : Nat) (h147 : F.fn 147) (hro : F.round=none) (h : List UInt8) (w : World) :
  CallsIn F n Tryz.prog 147 #[.string ⟨h.toArray⟩] w fun e w'=>e=.returned (.func (.func 194) #[] #[.pointer (some ⟨w.heap.size,0,none⟩)])∧w'=w.alloc (.cells #[.string ⟨h.toArray⟩] 9):=by
 refine callsIn_of_wp Tryz.func147 rfl h147 ?_ hro
 simp only [Tryz.ntmps147,List.size_toArray,List.length_cons,List.length_nil,Nat.reduceAdd,Nat.reduceSub,Array.replicate_succ,Array.replicate_zero,List.push_toArray,List.append_toArray,List.nil_append,List.cons_append]
 gi_wp2
 go_ret
 exact ⟨rfl,rfl⟩
theorem ops_seq (F : Fence) (n : Nat) (h194 : F.fn 194) (h195 : F.fn 195) (hro : F.round=none) (hn : 1≤n) (h : List UInt8) (hlen : h.length < 4611686018427387904) (B : Nat) (w : World) (_hB : w.cell? ⟨B,0,none⟩=some (.string ⟨h.toArray⟩)) (hBl : B < w.heap.size) :
  SeqC F n Tryz.prog 194 #[.pointer (some ⟨B,0,none⟩)] (fun x : UInt8×Int=>#[.int .i64 (IntKind.wrap .i64 (x.1.toNat : Int)),.int .i64 x.2]) (opsL h) (fun W=>W.cell? ⟨B,0,none⟩=some (.string ⟨h.toArray⟩)) w:=by
 intro l J Jx W hW hJ hJx hJK hY h0
 exact ops1_in F n h194 h195 hro hn h hlen B l J Jx W (hJK _ _ h0) (Nat.lt_of_lt_of_le hBl hW.size) hJ hJx hJK hY h0
def cntL (c : Int) (l : List (UInt8×Int)) : Nat:=(l.filter fun x=>(x.1.toNat : Int)==c).length
theorem cntL_snoc (c : Int) (l : List (UInt8×Int)) (x : UInt8×Int) : cntL c (l++[x])=if (x.1.toNat : Int)=c then cntL c l+1 else cntL c l:=by
 unfold cntL
 rw [List.filter_append,List.length_append]
 by_cases h : (x.1.toNat : Int)=c<;>simp [h]
theorem cntL_le (c : Int) (l : List (UInt8×Int)) : cntL c l≤l.length:=List.length_filter_le _ _
theorem pre_le {α : Type} {a b : List α} (h : a <+: b) : a.length≤b.length:=h.length_le
def cntW (C : Nat) (c : Int) (h : List UInt8) (w : World) (pre : List (UInt8×Int)) (W : World) : Prop :=
 W.cell? ⟨C+1,0,none⟩=some (.int .i64 (cntL c pre : Nat))∧W.frozen? ⟨C+1,0,none⟩=false∧W.cell? ⟨C,0,none⟩=some (.int .i64 c)∧W.cell? ⟨C+2,0,none⟩=some (.string ⟨h.toArray⟩)∧Below C w W∧C+3≤W.heap.size
theorem cntW_own (C : Nat) (c : Int) (h : List UInt8) (w : World) : OwnC (C+3) (cntW C c h w):=by
 rintro s A B ⟨h1,h2,h3,h4,h5,h6⟩ hb
 have k : ∀ i,i < C+3→B.heap[i]?=A.heap[i]?:=fun i hi=>hb.block i hi
 have kc : ∀ i,i < C+3→B.cell? ⟨i,0,none⟩=A.cell? ⟨i,0,none⟩:=fun i hi=>World.cell?_of_block (k i hi)
 refine ⟨(kc _ (by omega)).trans h1,?_,(kc _ (by omega)).trans h3,(kc _ (by omega)).trans h4,h5.trans (hb.mono (by omega)),Nat.le_trans h6 hb.size⟩
 have:=k (C+1) (by omega)
 unfold World.frozen? at *
 rw [this]
 exact h2
set_option maxRecDepth 100000 in
set_option maxHeartbeats 4000000 in
theorem count_in (F : Fence) (n : Nat) (h96 : F.fn 96) (h147 : F.fn 147) (h194 : F.fn 194) (h195 : F.fn 195) (hro : F.round=none) (hn : 5≤n) (h : List UInt8) (hlen : h.length < 4611686018427387904) (c : Int) (w : World) :
  CallsIn F n Tryz.prog 96 #[.string ⟨h.toArray⟩,.int .i64 c] w fun e w'=>e=.returned (.int .i64 (cntL c (opsL h) : Nat))∧Below w.heap.size w w':=by
 refine callsIn_of_wp_marks Tryz.func96 rfl h96 ?_ hro
 simp only [Tryz.ntmps96,List.size_toArray,List.length_cons,List.length_nil,Nat.reduceAdd,Nat.reduceSub,Array.replicate_succ,Array.replicate_zero,List.push_toArray,List.append_toArray,List.nil_append,List.cons_append]
 gi_wp2
 refine ⟨fun _=>by omega,(opsF_in F _ h147 hro h _).mono ?_⟩
 rintro e w' ⟨rfl,rfl⟩
 rename_i K3 a3 K2 a2 K1 a1
 refine a1 _ _ ?_
 clear a1 K1
 gi_wp2
 obtain ⟨C,hC⟩ : ∃ C,w.heap.size=C:=⟨_,rfl⟩
 obtain ⟨W0,hW0⟩ : ∃ W0,(((w.alloc (Obj.cells #[Value.int IntKind.i64 c] 3)).alloc (Obj.cells #[Value.int IntKind.i64 0] 3)).alloc (Obj.cells #[Value.string { data:=h.toArray }] 9))=W0:=⟨_,rfl⟩
 have hI0 : cntW C c h w [] W0:=by
  subst hC
  subst hW0
  have n1:=World.alloc_heap_new w (Obj.cells #[Value.int IntKind.i64 c] 3)
  have n2:=World.alloc_heap_new (w.alloc (Obj.cells #[Value.int IntKind.i64 c] 3)) (Obj.cells #[Value.int IntKind.i64 0] 3)
  have n3:=World.alloc_heap_new ((w.alloc (Obj.cells #[Value.int IntKind.i64 c] 3)).alloc (Obj.cells #[Value.int IntKind.i64 0] 3)) (Obj.cells #[Value.string { data:=h.toArray }] 9)
  have m1:=(Below.heap_alloc (w.alloc (Obj.cells #[Value.int IntKind.i64 c] 3)) (Obj.cells #[Value.int IntKind.i64 0] 3) w.heap.size (by simp)).trans n1
  have m1':=(Below.heap_alloc ((w.alloc (Obj.cells #[Value.int IntKind.i64 c] 3)).alloc (Obj.cells #[Value.int IntKind.i64 0] 3)) (Obj.cells #[Value.string { data:=h.toArray }] 9) w.heap.size (by simp; omega)).trans m1
  have m2:=(Below.heap_alloc ((w.alloc (Obj.cells #[Value.int IntKind.i64 c] 3)).alloc (Obj.cells #[Value.int IntKind.i64 0] 3)) (Obj.cells #[Value.string { data:=h.toArray }] 9) (w.alloc (Obj.cells #[Value.int IntKind.i64 c] 3)).heap.size (by simp)).trans n2
  rw [World.size_alloc] at m2
  rw [World.size_alloc,World.size_alloc] at n3
  refine ⟨?_,?_,?_,?_,(((Below.refl _ w).alloc (Nat.le_refl _) _).alloc (by simp) _).alloc (by simp; omega) _,by simp⟩
  ·unfold World.cell?
   rw [m2]
   rfl
  ·unfold World.frozen?
   rw [m2]
   rfl
  ·unfold World.cell?
   rw [m1']
   rfl
  ·unfold World.cell?
   rw [show w.heap.size+2=w.heap.size+1+1 by omega,n3]
   rfl
 have hs0 : W0.heap.size=C+3:=by rw [← hW0,← hC]; simp
 rw [show (((w.alloc (Obj.cells #[Value.int IntKind.i64 c] 3)).alloc (Obj.cells #[Value.int IntKind.i64 0] 3)).heap.size)=C+2 by rw [← hC]; simp]
 rw [hW0,hC]
 have h1 : 1≤n:=by omega
 refine wpIn_rangeC hro h1 (gf:=194) (lb:=#[.pointer (some ⟨C+2,0,none⟩)]) rfl h194 (enters_of Tryz.func194 (by kernel_rfl) rfl) (ops_seq F (n - 1) h194 h195 hro (by omega) h hlen (C+2) W0 hI0.2.2.2.1 (by omega)) (Below.refl _ _) (fun _=>rfl)
  (cntW C c h w) (fun _ _ _=>False) (by rw [hs0]; exact cntW_own C c h w) (fun _ _ hh=>hh.2.2.2.1) (fun _ _ _ _ hs _=>hs) hI0
  (fun x=>{ tmps:=#[.string ⟨h.toArray⟩,.int .i64 c,undef,.pointer (some ⟨C,0,none⟩),.int .i64 0,.pointer (some ⟨C+1,0,none⟩),.int .i64 (wrap64 (x.1.toNat : Int)),.string ⟨h.toArray⟩,.func (.func 194) #[] #[.pointer (some ⟨C+2,0,none⟩)],.int .i64 (wrap64 (x.1.toNat : Int)),.int .i64 x.2,undef,undef,undef,undef,undef,undef],defers:=[] }) ?assign ?body ?done ?stop
 case assign =>
  intro l x W K hK
  gi_wp2
  exact hK
 case body =>
  intro l pre x W hI hpre
  obtain ⟨i1,i2,i3,i4,i5,i6⟩:=hI
  have hx : wrap64 (x.1.toNat : Int)=(x.1.toNat : Int):=by
   have:=x.1.toNat_lt
   exact w64_in (by omega) (by omega)
  have hl:=pre_le hpre
  rw [opsL_len,List.length_append,List.length_singleton] at hl
  have hcl:=cntL_le c pre
  rw [hx]
  gi_wp2
  ·rename_i hb
   have hb : (x.1.toNat : Int)=c:=by simpa using hb
   have hp : ∀ k,k≠C+1→(W.setCell ⟨C+1,0,none⟩ (.int .i64 ((cntL c pre : Int)+1))).heap[k]?=W.heap[k]?:=fun k hk=>Below.heap_setCell _ _ _ _ hk
   refine ⟨⟨by simp [World.setCell],rfl,rfl,rfl,fun k hk _=>hp k (by omega)⟩,?_,?_,?_,?_,i5.setCell (p:=⟨C+1,0,none⟩) (Nat.le_succ C) _,by simpa [World.setCell] using i6⟩
   ·rw [World.cell?_setCell_same' _ _ _ (by rw [i1]; rfl),cntL_snoc,if_pos hb]
    simp
   ·rw [World.frozen?_setCell]
    exact i2
   ·rw [World.cell?_of_block (hp C (by omega))]
    exact i3
   ·rw [World.cell?_of_block (hp (C+2) (by omega))]
    exact i4
  ·rename_i hb
   have hb : ¬ (x.1.toNat : Int)=c:=by simpa using hb
   refine ⟨KpC.refl _ _,?_⟩
   refine ⟨?_,i2,i3,i4,i5,i6⟩
   rw [cntL_snoc,if_neg hb]
   exact i1
 case done =>
  intro D W hD hI hd
  obtain ⟨i1,i2,i3,i4,i5,i6⟩:=hI
  gi_wp2
  refine ⟨by simp,.inl ⟨_,_,rfl,run_takeDeferred hd,?_⟩⟩
  exact ⟨_,results_tmp rfl _ _ _,rfl,by rw [hC]; exact i5.trans (below_put _ (by omega))⟩
 case stop =>
  intro D c' pre W _ _ hc _
  exact hc.elim
theorem cnt_opsL (c : Int) (h : List UInt8) : cntL c (opsL h)=(h.filter fun b=>(b.toNat : Int)==c).length:=by
 have key : ∀ k,k≤h.length→cntL c ((opsL h).take k)=((h.take k).filter fun b=>(b.toNat : Int)==c).length:=by
  intro k
  induction k with
  | zero=>intro _; rfl
  | succ k ih =>
    intro hk
    rw [opsL_take h (by omega),cntL_snoc,List.take_succ_eq_append_getElem (by omega),List.filter_append,List.length_append,ih (by omega)]
    by_cases e : ((h[k]'(by omega)).toNat : Int)=c<;>simp [e]
 have:=key h.length (Nat.le_refl _)
 rw [← opsL_len,List.take_length,opsL_len,List.take_length] at this
 exact this
def histCountF (h : List UInt8) (c : Int) : Option Int:=if h.length < 4611686018427387904 then some ((h.filter fun b=>(b.toNat : Int)==c).length : Nat) else none
theorem histCountF_ev {h : List UInt8} {c r : Int} (hF : histCountF h c=some r) : EvCall Tryz.prog T G0 96 [.str h,.int .i64 c] [] (fun v H'=>v=.int .i64 r∧H'=[]):=by
 unfold histCountF at hF
 split at hF
 ·rename_i hl
  have e:=Option.some.inj hF
  subst e
  refine EvCall.of_calls ⟨_,_,Tryz.func96,rfl,by decide⟩ fun x vs hvs=>?_
  have h1 : vs=[.string ⟨h.toArray⟩,.int .i64 c]:=by
   simp only [RL,R] at hvs
   obtain ⟨v,r,rfl,rfl,v2,r2,rfl,rfl,rfl⟩:=hvs
   rfl
  subst h1
  refine ⟨.int .i64 ((h.filter fun b=>(b.toNat : Int)==c).length : Nat),fun y=>by simp [R],?_⟩
  have:=(count_in { fn:=fun _=>True } 5 trivial trivial trivial trivial rfl (Nat.le_refl _) h hl c x.w).calls (fun k d hd=>by cases hd)
  rw [cnt_opsL] at this
  exact this
 ·cases hF
end Go.Proofs.YtnoongjjjpljjaaGreatDoor
