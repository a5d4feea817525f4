/- The abstract values and heaps, what they stand for in a world of the model, and that this lasts. What an abstract heap stands for in a world, and what a step may change. The operations on abstract values and heaps. Maps: what a key finds, what is put, what is taken away. The abstract interpreter, as a predicate transformer; loops and calls are least fixpoints. Steps of a world, and the abstract heap behind them: a new block, a dead one, a written one, one that goes on under a new number. What the small table of types must be to the program's, and what follows for the operations that read no memory. '==' on abstract values is the model's; constants and operands. Operators on abstract values are the model's. Operators, unary operators, conversions between numbers. Operations that leave the heap as it is. Slices of slices and of strings; lengths; the first cells. Operations that make blocks or write into them. append, copy, make, literals of slices, bytes of strings. append, copy, make, slice literals, bytes and strings: sound. copy, make, literals, conversions between bytes and strings: sound. make, literals, conversions between bytes and strings: sound. Conversions: sound. Maps: sound. -/
import Derived.WalkKit
import Derived.Below
import Derived.Laws.Rows
import Derived.Laws.Tables
import Derived.Laws.Append
import Derived.Laws.Cells
import Derived.ArgAppend
import Derived.Laws.IdiomCopy
import Derived.Laws.StructEq
import Derived.ChangeKeysEq
import Derived.Laws.Slices
import Derived.Laws.AppendOwn
import Derived.IntWalk
import Derived.MapKept
namespace Go.Abs
inductive AV where
 | bool (b : Bool)
 | int (k : IntKind) (n : Int)
 | str (s : List UInt8)
 | nilptr
 | ptr (l off : Nat)
 | lptr (cs : List AV) (off : Nat)
 | lit (nl ex : Bool) (cs : List AV) (len : Nat)
 | ref (ex nl : Bool) (l off len sz : Nat)
 | fn (f : FuncId) (first caps : List AV)
 | nilfn
 | map (l : Nat)
 | nilmap
 | iface (t : TypeId) (v : AV)
 | nilif
 | agg (cs : List AV)
 | tup (cs : List AV)
 | own (l ver : Nat) (nl : Bool) (cs : List AV) (len sz : Nat)
 | any
def AV.isCell : AV→Bool
 | .agg _|.tup _|.any=>false
 | _=>true
inductive AB where
 | cells (cs : List AV)
 | map (es : List (AV×AV)) (bs : List Nat) (clock : Nat)
 | iter (src : Option Nat) (since : Nat) (seen : List Nat) (last : Nat)
 | room (ver : Nat) (real : Bool)
 | dead
abbrev AH:=List AB
structure Cx where
 at_ : Nat→Nat×Nat
 ver : Nat→Nat
 rl : Nat→Bool
 F : Nat→Nat→Prop
 N : Nat
 w : World
def Cx.Fz (x : Cx) (b m : Nat) : Prop:=∃ q,m≤q∧x.F b q
theorem Cx.Fz.le {x : Cx} {b m n : Nat} (h : x.Fz b m) (hn : n≤m) : x.Fz b n:=by
 obtain ⟨q,h1,h2⟩:=h
 exact ⟨q,Nat.le_trans hn h1,h2⟩
theorem Cx.Fz.of {x : Cx} {b m : Nat} (h : x.F b m) : x.Fz b m:=⟨m,Nat.le_refl _,h⟩
def bsz (w : World) (k : Nat) : Option Nat :=
 match w.heap[k]? with
 | some (.cells c _ _)=>some c.size
 | _=>none
mutual
def R (x : Cx) : AV→Value→Prop
 | .bool b,v=>v=.bool b
 | .int k n,v=>v=.int k n
 | .str s,v=>v=.string ⟨s.toArray⟩
 | .nilptr,v=>v=.pointer none
 | .ptr l off,v=>l < x.N∧x.ver l=0∧v=.pointer (some ⟨(x.at_ l).1,(x.at_ l).2+off,none⟩)
 | .lptr cs off,v=>∃ b o vs,v=.pointer (some ⟨b,o+off,none⟩)∧x.Fz b (o+cs.length)∧RL x cs vs∧(∀ a∈cs,a.isCell=true)∧∀ i u,vs[i]?=some u→x.w.cell? ⟨b,o+i,none⟩=some u
 | .lit nl ex cs len,v=>((∃ p : Option Addr,nl=p.isNone∧v=.slice p 0 0)∧cs=[]∧len=0) ∨
   (nl=false∧∃ b o cap vs,v=.slice (some ⟨b,o,none⟩) len cap∧len≤cap∧cap≤maxLen∧(ex=true→cap=len)∧RL x cs vs∧(∀ a∈cs,a.isCell=true)∧(cs=[]∨x.Fz b (o+cs.length))∧∀ i u,vs[i]?=some u→x.w.cell? ⟨b,o+i,none⟩=some u)
 | .ref ex nl l off len sz,v=>(l < x.N∧x.ver l=0)∧((nl=true∧v=.slice none 0 0∧len=0)∨(nl=false∧∃ cap S o,v=.slice (some ⟨(x.at_ l).1,o,none⟩) len cap∧(0 < cap→o=(x.at_ l).2+off)∧len≤cap∧cap≤maxLen∧(ex=true→cap=len) ∧
   bsz x.w (x.at_ l).1=some S∧(x.at_ l).2+off+cap * sz≤S))
 | .fn f first caps,v=>∃ fs cs,v=.func (.func f) fs.toArray cs.toArray∧RL x first fs∧RL x caps cs
 | .nilfn,v=>v=.nilFunc
 | .map l,v=>l < x.N∧x.ver l=0∧v=.map (some (x.at_ l).1)
 | .nilmap,v=>v=.map none
 | .iface t a,v=>∃ u,v=.iface t u∧R x a u
 | .nilif,v=>v=.nilIface
 | .agg cs,v=>(∀ a∈cs,a.isCell=true)∧∃ vs,v=.agg vs.toArray∧RL x cs vs
 | .tup cs,v=>∃ vs,v=.tuple vs.toArray∧RL x cs vs
 | .own l ver nl cs len sz,v=>(l < x.N∧0 < ver∧ver≤x.ver l∧cs.length=len * sz)∧(((∃ p : Option Addr,nl=p.isNone∧v=.slice p 0 0)∧cs=[]∧len=0) ∨
   (nl=false∧∃ b o cap vs,v=.slice (some ⟨b,o,none⟩) len cap∧len≤cap∧cap≤maxLen∧RL x cs vs∧(∀ a∈cs,a.isCell=true)∧(cs=[]∨x.Fz b (o+cs.length))∧(∀ i u,vs[i]?=some u→x.w.cell? ⟨b,o+i,none⟩=some u) ∧
    (x.ver l=ver→cap=len∨(x.rl l=true∧x.at_ l=(b,o+cs.length)∧∃ S,bsz x.w b=some S∧o+cap * sz≤S))))
 | .any,v=>∀ b,v≠.bool b
def RL (x : Cx) : List AV→List Value→Prop
 | [],vs=>vs=[]
 | a::as,vs=>∃ v r,vs=v::r∧R x a v∧RL x as r
end
structure Keeps (x y : Cx) : Prop where
 at_ : ∀ l,l < x.N→y.ver l=x.ver l→y.at_ l=x.at_ l∧y.rl l=x.rl l
 ver : ∀ l,l < x.N→x.ver l≤y.ver l∧(x.ver l=0→y.ver l=0)
 N : x.N≤y.N
 F : ∀ k m,x.F k m→y.F k m
 heap : ∀ k m,x.F k m→∀ i,i < m→y.w.cell? ⟨k,i,none⟩=x.w.cell? ⟨k,i,none⟩
 sz : ∀ k s,bsz x.w k=some s→bsz y.w k=some s
theorem Keeps.refl (x : Cx) : Keeps x x:=⟨fun _ _ _=>⟨rfl,rfl⟩,fun _ _=>⟨Nat.le_refl _,id⟩,Nat.le_refl _,fun _ _ h=>h,fun _ _ _ _ _=>rfl,fun _ _ h=>h⟩
theorem Keeps.trans {x y z : Cx} (h : Keeps x y) (k : Keeps y z) : Keeps x z:=by
 refine ⟨fun l hl e=>?_,fun l hl=>?_,Nat.le_trans h.N k.N,fun b m hb=>k.F b m (h.F b m hb),fun b m hb i hi=>(k.heap b m (h.F b m hb) i hi).trans (h.heap b m hb i hi),fun b s hb=>k.sz b s (h.sz b s hb)⟩
 ·have h1:=(h.ver l hl).1
  have h2:=(k.ver l (Nat.lt_of_lt_of_le hl h.N)).1
  have e1 : y.ver l=x.ver l:=by omega
  have e2 : z.ver l=y.ver l:=by omega
  have g1:=h.at_ l hl e1
  have g2:=k.at_ l (Nat.lt_of_lt_of_le hl h.N) e2
  exact ⟨g2.1.trans g1.1,g2.2.trans g1.2⟩
 ·have h1:=h.ver l hl
  have h2:=k.ver l (Nat.lt_of_lt_of_le hl h.N)
  exact ⟨Nat.le_trans h1.1 h2.1,fun e=>h2.2 (h1.2 e)⟩
theorem Keeps.place {x y : Cx} (h : Keeps x y) {l : Nat} (hl : l < x.N) (hv : x.ver l=0) : l < y.N∧y.ver l=0∧y.at_ l=x.at_ l :=
 ⟨Nat.lt_of_lt_of_le hl h.N,(h.ver l hl).2 hv,(h.at_ l hl (by rw [(h.ver l hl).2 hv,hv])).1⟩
theorem Keeps.cell {x y : Cx} (h : Keeps x y) {b m o : Nat} {u : Value} (hb : x.Fz b m) (ho : o < m) (hc : x.w.cell? ⟨b,o,none⟩=some u) : y.w.cell? ⟨b,o,none⟩=some u:=by
 obtain ⟨q,h1,h2⟩:=hb
 rw [h.heap b q h2 o (by omega)]
 exact hc
theorem Keeps.Fz {x y : Cx} (h : Keeps x y) {b m : Nat} (hb : x.Fz b m) : y.Fz b m:=hb.imp fun _ hq=>⟨hq.1,h.F _ _ hq.2⟩
theorem RL.len {x : Cx} : ∀ (as : List AV) (vs : List Value),RL x as vs→vs.length=as.length
 | [],_,h=>by simp only [RL] at h; simp [h]
 | _::as,_,h=>by
   simp only [RL] at h
   obtain ⟨v,r,rfl,_,h2⟩:=h
   simp [RL.len as r h2]
mutual
theorem R.keeps {x y : Cx} (h : Keeps x y) : ∀ (a : AV) (v : Value),R x a v→R y a v
 | .bool _,_,hr=>by simpa [R] using hr
 | .int _ _,_,hr=>by simpa [R] using hr
 | .str _,_,hr=>by simpa [R] using hr
 | .nilptr,_,hr=>by simpa [R] using hr
 | .ptr l off,v,hr=>by
   simp only [R] at *
   obtain ⟨h1,h2,h3⟩:=h.place hr.1 hr.2.1
   exact ⟨h1,h2,by rw [h3]; exact hr.2.2⟩
 | .lptr cs off,v,hr=>by
   simp only [R] at *
   obtain ⟨b,o,vs,e,hf,hl,hk,hc⟩:=hr
   exact ⟨b,o,vs,e,h.Fz hf,RL.keeps h cs vs hl,hk,fun i u hu=>h.cell hf (by have:=RL.len cs vs hl; have:=(List.getElem?_eq_some_iff.1 hu).1; omega) (hc i u hu)⟩
 | .lit nl ex cs len,v,hr=>by
   simp only [R] at *
   rcases hr with hr|⟨hn,b,o,cap,vs,e,h1,h2,h3,hl,hk,hf,hc⟩
   ·exact .inl hr
   ·refine .inr ⟨hn,b,o,cap,vs,e,h1,h2,h3,RL.keeps h cs vs hl,hk,hf.imp id h.Fz,fun i u hu=>?_⟩
    rcases hf with rfl|hf
    ·simp only [RL] at hl
     subst hl
     simp at hu
    ·exact h.cell hf (by have:=RL.len cs vs hl; have:=(List.getElem?_eq_some_iff.1 hu).1; omega) (hc i u hu)
 | .ref ex nl l off len sz,v,hr=>by
   simp only [R] at *
   obtain ⟨⟨hl,hv⟩,hr⟩:=hr
   obtain ⟨g1,g2,g3⟩:=h.place hl hv
   rw [g3]
   refine ⟨⟨g1,g2⟩,hr.imp id fun ⟨hn,cap,S,o,e,h0,h1,h2,h3,h4,h5⟩=>⟨hn,cap,S,o,e,h0,h1,h2,h3,h.sz _ _ h4,h5⟩⟩
 | .fn f first caps,v,hr=>by
   simp only [R] at *
   obtain ⟨fs,cs,e,h1,h2⟩:=hr
   exact ⟨fs,cs,e,RL.keeps h _ _ h1,RL.keeps h _ _ h2⟩
 | .nilfn,_,hr=>by simpa [R] using hr
 | .map l,v,hr=>by
   simp only [R] at *
   obtain ⟨h1,h2,h3⟩:=h.place hr.1 hr.2.1
   exact ⟨h1,h2,by rw [h3]; exact hr.2.2⟩
 | .nilmap,_,hr=>by simpa [R] using hr
 | .iface t a,v,hr=>by
   simp only [R] at *
   obtain ⟨u,e,hu⟩:=hr
   exact ⟨u,e,R.keeps h a u hu⟩
 | .nilif,_,hr=>by simpa [R] using hr
 | .agg cs,v,hr=>by
   simp only [R] at *
   obtain ⟨hk,vs,e,hl⟩:=hr
   exact ⟨hk,vs,e,RL.keeps h cs vs hl⟩
 | .tup cs,v,hr=>by
   simp only [R] at *
   obtain ⟨vs,e,hl⟩:=hr
   exact ⟨vs,e,RL.keeps h cs vs hl⟩
 | .own l ver nl cs len sz,v,hr=>by
   simp only [R] at *
   obtain ⟨⟨hl,h0,hv,hs⟩,hr⟩:=hr
   refine ⟨⟨Nat.lt_of_lt_of_le hl h.N,h0,Nat.le_trans hv (h.ver l hl).1,hs⟩,?_⟩
   rcases hr with hr|⟨hn,b,o,cap,vs,e,h1,h2,h3,hk,hf,hc,ht⟩
   ·exact .inl hr
   ·refine .inr ⟨hn,b,o,cap,vs,e,h1,h2,RL.keeps h cs vs h3,hk,hf.imp id h.Fz,fun i u hu=>?_,fun hy=>?_⟩
    ·rcases hf with rfl|hf
     ·simp only [RL] at h3
      subst h3
      simp at hu
     ·exact h.cell hf (by have:=RL.len cs vs h3; have:=(List.getElem?_eq_some_iff.1 hu).1; omega) (hc i u hu)
    ·have e1 : x.ver l=ver:=by have:=(h.ver l hl).1; omega
     rcases ht e1 with ht|⟨t1,t2,S,t3,t4⟩
     ·exact .inl ht
     ·obtain ⟨g1,g2⟩:=h.at_ l hl (by omega)
      exact .inr ⟨g2.trans t1,g1.trans t2,S,h.sz _ _ t3,t4⟩
 | .any,_,hr=>by simpa [R] using hr
theorem RL.keeps {x y : Cx} (h : Keeps x y) : ∀ (as : List AV) (vs : List Value),RL x as vs→RL y as vs
 | [],_,hr=>by simpa [RL] using hr
 | a::as,vs,hr=>by
   simp only [RL] at *
   obtain ⟨v,r,e,h1,h2⟩:=hr
   exact ⟨v,r,e,R.keeps h a v h1,RL.keeps h as r h2⟩
end
def AV.weak : AV→AV
 | .own _ _ nl cs len _=>.lit nl false cs len
 | a=>a
theorem R.weak {x : Cx} {a : AV} {v : Value} (h : R x a v) : R x a.weak v:=by
 cases a<;>first|exact h|skip
 simp only [AV.weak,R] at *
 rcases h.2 with h|⟨hn,b,o,cap,vs,e,h1,h2,h3,hk,hf,hc,_⟩
 ·exact .inl h
 ·exact .inr ⟨hn,b,o,cap,vs,e,h1,h2,(fun h=>by cases h),h3,hk,hf,hc⟩
end Go.Abs
namespace Go.Abs
def AB.live : AB→Bool
 | .dead=>false
 | .room _ real=>real
 | _=>true
def AB.isRoom : AB→Bool
 | .room _ _=>true
 | _=>false
def Live (H : AH) (l : Nat) : Prop:=∃ b,H[l]?=some b∧b.live=true
def Own (x : Cx) (H : AH) (k : Nat) : Prop:=∃ l,Live H l∧(x.at_ l).1=k
def Holds (x : Cx) (b o : Nat) (cs : List AV) : Prop :=
 ∃ c t fz vs,x.w.heap[b]?=some (.cells c t fz)∧(∀ i,i < c.size→¬ (fz.1≤i∧i < fz.2))∧RL x cs vs∧o+cs.length≤c.size∧(∀ i u,vs[i]?=some u→c[o+i]?=some u) ∧
   ∀ a∈cs,a.isCell=true
def HoldsMap (x : Cx) (b : Nat) (es : List (AV×AV)) (bs : List Nat) (clock : Nat) : Prop :=
 ∃ c,x.w.heap[b]?=some (.map c clock)∧RL x (es.map (·.1)) (c.toList.map (·.key))∧RL x (es.map (·.2)) (c.toList.map (·.val))∧c.toList.map (·.born)=bs
def HoldsIter (x : Cx) (b : Nat) (src : Option Nat) (since : Nat) (seen : List Nat) (last : Nat) : Prop :=
 (∀ l,src=some l→l < x.N∧x.ver l=0)∧x.w.heap[b]?=some (.mapIter (src.map fun l=>(x.at_ l).1) since seen.toArray last)
def HoldsRoom (x : Cx) (b o : Nat) : Prop :=
 ∃ c t fz,x.w.heap[b]?=some (.cells c t fz)∧(∀ i,i < c.size→¬ (fz.1≤i∧i < fz.2))∧o≤c.size
def HoldsB (x : Cx) (l : Nat) : AB→Prop
 | .cells cs=>x.ver l=0∧Holds x (x.at_ l).1 (x.at_ l).2 cs
 | .map es bs clock=>x.ver l=0∧HoldsMap x (x.at_ l).1 es bs clock
 | .iter src since seen last=>x.ver l=0∧(x.at_ l).2=0∧HoldsIter x (x.at_ l).1 src since seen last
 | .room v real=>x.ver l=v∧0 < v∧x.rl l=real∧(real=true→HoldsRoom x (x.at_ l).1 (x.at_ l).2)
 | .dead=>True
structure Rel (x : Cx) (H : AH) : Prop where
 N : x.N=H.length
 block : ∀ l b,H[l]?=some b→HoldsB x l b
 inj : ∀ l m,Live H l→Live H m→(x.at_ l).1=(x.at_ m).1→l=m
 notF : ∀ l b,H[l]?=some b→b.live=true→∀ m,x.F (x.at_ l).1 m→b.isRoom=true∧m≤(x.at_ l).2
 Flt : ∀ k m,x.F k m→k < x.w.heap.size
theorem Holds.lt {x : Cx} {b o : Nat} {cs : List AV} (h : Holds x b o cs) : b < x.w.heap.size:=by
 obtain ⟨c,t,fz,vs,hb,_⟩:=h
 rcases Nat.lt_or_ge b x.w.heap.size with h'|h'
 ·exact h'
 ·simp [Array.getElem?_eq_none h'] at hb
theorem heap_lt {w : World} {k : Nat} {o : Obj} (h : w.heap[k]?=some o) : k < w.heap.size:=by
 rcases Nat.lt_or_ge k w.heap.size with h'|h'
 ·exact h'
 ·simp [Array.getElem?_eq_none h'] at h
theorem Own.lt {x : Cx} {H : AH} (h : Rel x H) {k : Nat} (ho : Own x H k) : k < x.w.heap.size:=by
 obtain ⟨l,⟨b,hb,hl⟩,rfl⟩:=ho
 have:=h.block l b hb
 cases b with
 | cells cs=>exact Holds.lt this.2
 | map es bs clock =>
   obtain ⟨_,c,hb,_⟩:=this
   exact heap_lt hb
 | iter src since seen last =>
   obtain ⟨_,_,_,hb⟩:=this
   exact heap_lt hb
 | room v real =>
   simp only [AB.live] at hl
   obtain ⟨_,_,_,h4⟩:=this
   obtain ⟨c,t,fz,hb,_⟩:=h4 hl
   exact heap_lt hb
 | dead=>cases hl
theorem Rel.hot {x : Cx} {H : AH} (hr : Rel x H) {l : Nat} {b : AB} (hb : H[l]?=some b) (hl : b.live=true) (hn : b.isRoom=false) {m : Nat} : ¬ x.F (x.at_ l).1 m:=fun h=>by
 have:=(hr.notF l b hb hl m h).1
 rw [hn] at this
 cases this
structure Mv (n : Nat) (x : Cx) (H : AH) (y : Cx) (H' : AH) : Prop where
 at_ : ∀ l,l < n→y.ver l=x.ver l→y.at_ l=x.at_ l∧y.rl l=x.rl l
 ver : ∀ l,l < n→x.ver l≤y.ver l∧(x.ver l=0→y.ver l=0)
 Nx : n≤x.N
 N : n≤y.N
 F : ∀ k m,x.F k m→y.F k m
 same : ∀ k m,x.F k m→∀ i,i < m→y.w.cell? ⟨k,i,none⟩=x.w.cell? ⟨k,i,none⟩
 sz : ∀ k s,bsz x.w k=some s→bsz y.w k=some s
 size : x.w.heap.size≤y.w.heap.size
 os : y.w.os=x.w.os
 tape : y.w.tape=x.w.tape
 output : y.w.output=x.w.output
 frame : ∀ k,k < x.w.heap.size→¬ Own x H k→y.w.heap[k]?=x.w.heap[k]?
 own : ∀ k,Own y H' k→Own x H k∨x.w.heap.size≤k
 newF : ∀ k m,y.F k m→x.F k m∨Own x H k∨x.w.heap.size≤k
theorem Mv.refl {n : Nat} {x : Cx} (H : AH) (h : n≤x.N) : Mv n x H x H :=
 ⟨fun _ _ _=>⟨rfl,rfl⟩,fun _ _=>⟨Nat.le_refl _,id⟩,h,h,fun _ _ h=>h,fun _ _ _ _ _=>rfl,fun _ _ h=>h,Nat.le_refl _,rfl,rfl,rfl,fun _ _ _=>rfl,fun _ h=>.inl h,fun _ _ h=>.inl h⟩
theorem Mv.trans {n : Nat} {x y z : Cx} {H H' H'' : AH} (h : Mv n x H y H') (k : Mv n y H' z H'') : Mv n x H z H'' where
 at_ l hl e:=by
  have h1:=(h.ver l hl).1
  have h2:=(k.ver l hl).1
  have g1:=h.at_ l hl (by omega)
  have g2:=k.at_ l hl (by omega)
  exact ⟨g2.1.trans g1.1,g2.2.trans g1.2⟩
 ver l hl:=⟨Nat.le_trans (h.ver l hl).1 (k.ver l hl).1,fun e=>(k.ver l hl).2 ((h.ver l hl).2 e)⟩
 Nx:=h.Nx
 N:=k.N
 F b m hb:=k.F b m (h.F b m hb)
 same b m hb i hi:=(k.same b m (h.F b m hb) i hi).trans (h.same b m hb i hi)
 sz b s hb:=k.sz b s (h.sz b s hb)
 size:=Nat.le_trans h.size k.size
 os:=k.os.trans h.os
 tape:=k.tape.trans h.tape
 output:=k.output.trans h.output
 frame b hb ho:=(k.frame b (Nat.lt_of_lt_of_le hb h.size) (fun ho'=>(h.own b ho').elim ho (fun hge=>absurd hb (Nat.not_lt.2 hge)))).trans (h.frame b hb ho)
 own b hb:=(k.own b hb).elim (fun ho=>h.own b ho) (fun hge=>.inr (Nat.le_trans h.size hge))
 newF b m hb:=(k.newF b m hb).elim (fun hf=>h.newF b m hf) (fun hr=>.inr (hr.elim (fun ho=>h.own b ho) (fun hge=>.inr (Nat.le_trans h.size hge))))
theorem Mv.mono {n m : Nat} {x y : Cx} {H H' : AH} (h : Mv n x H y H') (hm : m≤n) : Mv m x H y H' :=
 ⟨fun l hl=>h.at_ l (Nat.lt_of_lt_of_le hl hm),fun l hl=>h.ver l (Nat.lt_of_lt_of_le hl hm),Nat.le_trans hm h.Nx,Nat.le_trans hm h.N,h.F,h.same,h.sz,h.size,h.os,h.tape,h.output,h.frame,h.own,h.newF⟩
theorem Mv.keeps {x y : Cx} {H H' : AH} (_hr : Rel x H) (h : Mv x.N x H y H') : Keeps x y :=
 ⟨h.at_,h.ver,h.N,h.F,h.same,h.sz⟩
def VS (n : Nat) (fr : List AV) (H : AH) (fr' : List AV) (H' : AH) : Prop :=
 ∀ (x : Cx) (vs : List Value),Rel x H→n≤x.N→RL x fr vs→∃ y,y.w=x.w∧Mv n x H y H'∧Rel y H'∧RL y fr' vs
theorem VS.refl (n : Nat) (fr : List AV) (H : AH) : VS n fr H fr H:=fun x _ hr hn hl=>⟨x,rfl,Mv.refl H hn,hr,hl⟩
theorem VS.trans {n : Nat} {a b c : List AV} {H H' H'' : AH} (h : VS n a H b H') (k : VS n b H' c H'') : VS n a H c H'':=by
 intro x vs hr hn hl
 obtain ⟨y,ey,hm,hr',hl'⟩:=h x vs hr hn hl
 obtain ⟨z,ez,hm',hr'',hl''⟩:=k y vs hr' hm.N hl'
 exact ⟨z,ez.trans ey,hm.trans hm',hr'',hl''⟩
theorem HoldsB.keeps {x y : Cx} (h : Keeps x y) {l : Nat} (hl : l < x.N) (hv : y.ver l=x.ver l) {b : AB} (hp : b.live=true→y.w.heap[(x.at_ l).1]?=x.w.heap[(x.at_ l).1]?) (hb : HoldsB x l b) : HoldsB y l b:=by
 obtain ⟨ha,hrl⟩:=h.at_ l hl hv
 cases b with
 | cells cs =>
   obtain ⟨h0,c,t,fz,vs,h1,h2,h3,h4,h5,h6⟩:=hb
   refine ⟨hv.trans h0,c,t,fz,vs,?_,h2,RL.keeps h _ _ h3,?_,?_,h6⟩<;>rw [ha]
   ·exact (hp rfl).trans h1
   ·exact h4
   ·exact h5
 | map es bs clock =>
   obtain ⟨h0,c,h1,h2,h3,h4⟩:=hb
   exact ⟨hv.trans h0,c,by rw [ha]; exact (hp rfl).trans h1,RL.keeps h _ _ h2,RL.keeps h _ _ h3,h4⟩
 | iter src since seen last =>
   obtain ⟨h0,h00,h1,h2⟩:=hb
   refine ⟨hv.trans h0,by rw [ha]; exact h00,fun l hl=>⟨(h.place (h1 l hl).1 (h1 l hl).2).1,(h.place (h1 l hl).1 (h1 l hl).2).2.1⟩,?_⟩
   rw [ha,hp rfl,h2]
   congr 1
   cases src with
   | none=>rfl
   | some l=>simp only [Option.map_some,(h.place (h1 l rfl).1 (h1 l rfl).2).2.2]
 | room v real =>
   obtain ⟨h0,h1,h2,h3⟩:=hb
   refine ⟨hv.trans h0,h1,hrl.trans h2,fun e=>?_⟩
   obtain ⟨c,t,fz,g1,g2,g3⟩:=h3 e
   rw [ha]
   exact ⟨c,t,fz,(hp e).trans g1,g2,g3⟩
 | dead=>trivial
theorem RL.length {x : Cx} {as : List AV} {vs : List Value} (h : RL x as vs) : vs.length=as.length:=RL.len as vs h
theorem RL.get {x : Cx} : ∀ {as : List AV} {vs : List Value},RL x as vs→∀ {i : Nat} {a : AV},as[i]?=some a→∃ v,vs[i]?=some v∧R x a v
 | [],_,_,i,a,hi=>by simp at hi
 | b::as,_,h,i,a,hi=>by
   simp only [RL] at h
   obtain ⟨v,r,rfl,h1,h2⟩:=h
   cases i with
   | zero=>simp at hi; subst hi; exact ⟨v,rfl,h1⟩
   | succ i=>simp at hi; simpa using RL.get h2 hi
theorem RL.set {x : Cx} : ∀ {as : List AV} {vs : List Value},RL x as vs→∀ (i : Nat) {a : AV} {v : Value},R x a v→RL x (as.set i a) (vs.set i v)
 | [],_,h,_,_,_,_=>by simp only [RL] at h; simp [h,RL]
 | b::as,_,h,i,a,v,ha=>by
   simp only [RL] at h
   obtain ⟨u,r,rfl,h1,h2⟩:=h
   cases i with
   | zero=>exact ⟨v,r,rfl,ha,h2⟩
   | succ i=>exact ⟨u,r.set i v,rfl,h1,RL.set h2 i ha⟩
theorem RL.append {x : Cx} : ∀ {as : List AV} {vs : List Value},RL x as vs→∀ {bs : List AV} {us : List Value},RL x bs us→RL x (as++bs) (vs++us)
 | [],_,h,_,_,hb=>by simp only [RL] at h; subst h; simpa using hb
 | a::as,_,h,_,_,hb=>by
   simp only [RL] at h
   obtain ⟨v,r,rfl,h1,h2⟩:=h
   exact ⟨v,r++_,rfl,h1,RL.append h2 hb⟩
theorem RL.take {x : Cx} : ∀ {as : List AV} {vs : List Value},RL x as vs→∀ (n : Nat),RL x (as.take n) (vs.take n)
 | [],_,h,_=>by simp only [RL] at h; simp [h,RL]
 | a::as,_,h,n=>by
   simp only [RL] at h
   obtain ⟨v,r,rfl,h1,h2⟩:=h
   cases n with
   | zero=>simp [RL]
   | succ n=>exact ⟨v,r.take n,rfl,h1,RL.take h2 n⟩
theorem RL.drop {x : Cx} : ∀ {as : List AV} {vs : List Value},RL x as vs→∀ (n : Nat),RL x (as.drop n) (vs.drop n)
 | [],_,h,_=>by simp only [RL] at h; simp [h,RL]
 | a::as,_,h,n=>by
   simp only [RL] at h
   obtain ⟨v,r,rfl,h1,h2⟩:=h
   cases n with
   | zero=>exact ⟨v,r,rfl,h1,h2⟩
   | succ n=>simpa using RL.drop h2 n
theorem RL.replicate {x : Cx} {a : AV} {v : Value} (h : R x a v) : ∀ n,RL x (List.replicate n a) (List.replicate n v)
 | 0=>by simp [RL]
 | n+1=>⟨v,_,by simp [List.replicate_succ],h,RL.replicate h n⟩
theorem RL.of_get {x : Cx} : ∀ {as : List AV} {vs : List Value},vs.length=as.length→(∀ (i : Nat) a v,as[i]?=some a→vs[i]?=some v→R x a v)→RL x as vs
 | [],vs,h,_=>by simp only [RL]; exact List.length_eq_zero_iff.1 h
 | a::as,[],h,_=>by simp at h
 | a::as,v::vs,h,k=>⟨v,vs,rfl,k 0 a v rfl rfl,RL.of_get (by simpa using h) (fun i a' v' ha hv=>k (i+1) a' v' (by simpa using ha) (by simpa using hv))⟩
theorem RL.mem {x : Cx} {as : List AV} {vs : List Value} (h : RL x as vs) {v : Value} (hv : v∈vs) : ∃ a∈as,R x a v:=by
 obtain ⟨i,hi⟩:=List.getElem?_of_mem hv
 have hl : i < as.length:=by rw [← h.length]; exact (List.getElem?_eq_some_iff.1 hi).1
 obtain ⟨v',h1,h2⟩:=h.get (List.getElem?_eq_getElem hl)
 rw [hi] at h1
 cases h1
 exact ⟨_,List.getElem_mem hl,h2⟩
theorem R.oneCell {x : Cx} {a : AV} {v : Value} (h : R x a v) (hc : a.isCell=true) : v.oneCell'=true:=by
 cases a with
 | bool|int|str|nilptr|nilfn|nilmap|nilif=>simp only [R] at h; subst h; rfl
 | ptr|map=>simp only [R] at h; obtain ⟨_,_,rfl⟩:=h; rfl
 | lptr=>simp only [R] at h; obtain ⟨_,_,_,rfl,_⟩:=h; rfl
 | lit=>simp only [R] at h; rcases h with ⟨⟨p,hpn,rfl⟩,_⟩|⟨_,_,_,_,_,rfl,_⟩<;>rfl
 | ref=>simp only [R] at h; rcases h with ⟨_,⟨_,rfl,_⟩|⟨_,_,_,_,rfl,_⟩⟩<;>rfl
 | own=>simp only [R] at h; rcases h with ⟨_,⟨⟨p,hpn,rfl⟩,_⟩|⟨_,_,_,_,_,rfl,_⟩⟩<;>rfl
 | fn=>simp only [R] at h; obtain ⟨_,_,rfl,_⟩:=h; rfl
 | iface=>simp only [R] at h; obtain ⟨_,rfl,_⟩:=h; rfl
 | agg|tup|any=>cases hc
end Go.Abs
namespace Go.Abs
inductive AD where
 | bool
 | int (k : IntKind)
 | str
 | ptr (e : TypeId)
 | slice (e : TypeId)
 | arr (n : Nat) (e : TypeId)
 | struct (fs : List (Bool×Nat×TypeId))
 | map (k e : TypeId)
 | func
 | iface
 | other
structure AT where
 d : AD
 size : Nat
 bytes : Nat
 zero : List AV
 eqOk : Bool:=true
 ms : List (String×FuncId×Bool):=[]
abbrev TT:=TypeId→AT
def AD.isAgg : AD→Bool
 | .arr ..|.struct ..=>true
 | _=>false
def AD.known : AD→Bool
 | .other=>false
 | _=>true
def AD.subs : AD→List TypeId
 | .slice e|.arr _ e=>[e]
 | .struct fs=>fs.map (·.2.2)
 | .map k e=>[k,e]
 | _=>[]
def cvCell : Value→Option AV
 | .bool b=>some (.bool b)
 | .int k n=>some (.int k n)
 | .string s=>some (.str s.data.toList)
 | .pointer none=>some .nilptr
 | .slice none 0 0=>some (.lit true true [] 0)
 | .map none=>some .nilmap
 | .nilIface=>some .nilif
 | .nilFunc=>some .nilfn
 | _=>none
def cv : Value→Option AV
 | .tuple vs=>if vs.size=0 then some (.tup []) else none
 | .agg cs=>(cs.toList.mapM cvCell).map .agg
 | v=>cvCell v
def aval (G : Nat→Option (List AV)) (fr : List AV) : Operand→Option AV
 | .tmp t=>some (fr.getD t (.tup []))
 | .const v=>cv v
 | .global g=>(G g).map (.lptr · 0)
 | .func f=>some (.fn f [] [])
def apart (T : TT) (t : TypeId) (cs : List AV) (off : Nat) : Option AV :=
 if (T t).d.known then (if (T t).d.isAgg then (if off+(T t).size≤cs.length then some (.agg ((cs.drop off).take (T t).size)) else none) else cs[off]?) else none
def allM {α : Type} (f : α→Option Bool) : List α→Option Bool
 | []=>some true
 | a::r=>match f a with
   | some true=>allM f r
   | o=>o
def aeq (T : TT) : Nat→TypeId→AV→AV→Option Bool
 | 0,_,_,_=>none
 | d+1,t,x,y=>match (T t).d,x,y with
   | .bool,.bool a,.bool b=>some (a==b)
   | .int _,.int k a,.int k' b=>if k=k' then some (a==b) else none
   | .str,.str a,.str b=>some (a==b)
   | .ptr _,.nilptr,.nilptr=>some true
   | .ptr _,.nilptr,.ptr _ _|.ptr _,.ptr _ _,.nilptr=>some false
   | .slice _,.lit nl _ _ _,.lit true _ _ _=>some nl
   | .slice _,.own _ _ nl _ _ _,.lit true _ _ _=>some nl
   | .slice _,.ref _ nl _ _ _ _,.lit true _ _ _=>some nl
   | .map _ _,.nilmap,.nilmap=>some true
   | .map _ _,.map _,.nilmap=>some false
   | .func,.nilfn,.nilfn=>some true
   | .func,.fn _ _ _,.nilfn=>some false
   | .struct fs,.agg xs,.agg ys=>if (T t).eqOk then allM (fun f=>if f.1 then some true else
     match apart T f.2.2 xs f.2.1,apart T f.2.2 ys f.2.1 with
     | some a,some b=>aeq T d f.2.2 a b
     | _,_=>none) fs else none
   | .arr n e,.agg xs,.agg ys=>if (T t).eqOk then allM (fun i=>match apart T e xs (i * (T e).size),apart T e ys (i * (T e).size) with
     | some a,some b=>aeq T d e a b
     | _,_=>none) (List.range n) else none
   | _,_,_=>none
def ile : Int→Int→Bool
 | .ofNat a,.ofNat b=>Nat.ble a b
 | .negSucc _,.ofNat _=>true
 | .ofNat _,.negSucc _=>false
 | .negSucc a,.negSucc b=>Nat.ble b a
theorem ile_eq (a b : Int) : ile a b=decide (a≤b):=by
 cases a<;>cases b<;>simp only [ile]
 ·rename_i m n
  rw [Bool.eq_iff_iff]
  simp [Nat.ble_eq]
 ·symm; simp; omega
 ·symm; simp; omega
 ·rename_i m n
  rw [Bool.eq_iff_iff]
  simp only [Nat.ble_eq,decide_eq_true_eq]
  omega
theorem dle_not (a b : Int) : (!decide (b≤a))=decide (a < b):=by
 rw [Bool.eq_iff_iff]
 simp
def aarith (op : BinOp) (k : IntKind) (a b : Int) : Option AV :=
 match op with
 | .add=>some (.int k (k.wrap (a+b)))
 | .sub=>some (.int k (k.wrap (a - b)))
 | .mul=>some (.int k (k.wrap (a * b)))
 | .quo=>if b=0 then none else some (.int k (k.wrap (a.tdiv b)))
 | .rem=>if b=0 then none else some (.int k (a.tmod b))
 | .and=>some (.int k (k.wrap (BitVec.ofInt k.bits a &&& BitVec.ofInt k.bits b).toNat))
 | .or=>some (.int k (k.wrap (BitVec.ofInt k.bits a ||| BitVec.ofInt k.bits b).toNat))
 | .xor=>some (.int k (k.wrap (BitVec.ofInt k.bits a ^^^ BitVec.ofInt k.bits b).toNat))
 | .andNot=>some (.int k (k.wrap (BitVec.ofInt k.bits a &&& ~~~ BitVec.ofInt k.bits b).toNat))
 | .eql=>some (.bool (a==b))
 | .neq=>some (.bool (a != b))
 | .lss=>some (.bool (!ile b a))
 | .leq=>some (.bool (ile a b))
 | .gtr=>some (.bool (!ile a b))
 | .geq=>some (.bool (ile b a))
 | _=>none
def ashift (op : BinOp) (k : IntKind) (a b : Int) : Option AV :=
 if b < 0 then none else match op with
 | .shl=>some (.int k (k.wrap (a * 2 ^ min b.toNat k.bits)))
 | .shr=>some (.int k (a.fdiv (2 ^ min b.toNat k.bits)))
 | _=>none
def astr (op : BinOp) (a b : List UInt8) : Option AV :=
 match op with
 | .add=>if a.length+b.length≤9223372036854775807 then some (.str (a++b)) else none
 | .eql=>some (.bool (a==b))
 | .neq=>some (.bool (!(a==b)))
 | .lss=>some (.bool (Op.bytesLess a b))
 | .leq=>some (.bool (Op.bytesLess a b || a==b))
 | .gtr=>some (.bool (!(Op.bytesLess a b || a==b)))
 | .geq=>some (.bool (!Op.bytesLess a b))
 | _=>none
def abin (T : TT) (op : BinOp) (t : TypeId) (x y : AV) : Option AV :=
 match x,y with
 | .int k a,.int k' b=>match op with
   | .shl|.shr=>ashift op k a b
   | _=>if k=k' then aarith op k a b else none
 | .str a,.str b=>astr op a b
 | x,y=>match op with
   | .eql=>(aeq T 10000 t x y).map .bool
   | .neq=>(aeq T 10000 t x y).map fun b=>.bool (!b)
   | _=>none
def aun (op : UnOp) (x : AV) : Option AV :=
 match op,x with
 | .neg,.int k n=>some (.int k (k.wrap (0 - n)))
 | .xor,.int k n=>some (.int k (k.wrap (BitVec.ofInt k.bits (if k.signed then -1 else k.max) ^^^ BitVec.ofInt k.bits n).toNat))
 | .not,.bool b=>some (.bool !b)
 | _,_=>none
def acells (H : AH) (n : Nat) : AV→Option (List AV)
 | .lit _ _ cs _|.own _ _ _ cs _ _=>if n≤cs.length then some (cs.take n) else none
 | .ref _ true _ _ _ _=>if n=0 then some [] else none
 | .ref _ false l off _ _=>match H[l]? with
   | some (.cells cs)=>if off+n≤cs.length then some ((cs.drop off).take n) else none
   | _=>none
 | .str s=>if n≤s.length then some ((s.take n).map fun b=>.int .u8 b.toNat) else none
 | _=>none
def alen : AV→Option Nat
 | .lit _ _ _ n=>some n
 | .own _ _ _ _ n _=>some n
 | .ref _ _ _ _ n _=>some n
 | .str s=>some s.length
 | _=>none
def aload (T : TT) (H : AH) (t : TypeId) : AV→Option AV
 | .ptr l off=>match H[l]? with
   | some (.cells cs)=>apart T t cs off
   | _=>none
 | .lptr cs off=>apart T t cs off
 | _=>none
def splice (cs : List AV) (off : Nat) (vs : List AV) : List AV:=cs.take off++vs++cs.drop (off+vs.length)
def awrite (H : AH) (l off : Nat) (vs : List AV) : Option AH :=
 match H[l]? with
 | some (.cells cs)=>if off+vs.length≤cs.length then some (H.set l (.cells (splice cs off vs))) else none
 | _=>none
def acell : AV→Option (List AV)
 | .agg cs=>some cs
 | .tup _|.any=>none
 | v=>some [v]
def astore (T : TT) (H : AH) (t : TypeId) (p v : AV) : Option AH :=
 match p,acell v with
 | .ptr l off,some vs=>if (T t).d.known∧vs.length=(T t).size then awrite H l off vs else none
 | _,_=>none
def afill (places : Nat→Option (Nat×Nat)) : List AV→List (Nat×AV)→Option (List AV)
 | cs,[]=>some cs
 | cs,(i,v)::rest=>match places i,acell v with
   | some (off,size),some vs=>if vs.length=size∧off+vs.length≤cs.length then afill places (splice cs off vs) rest else none
   | _,_=>none
def numOf (v : AV) : Option Nat:=match v with|.int _ n=>if 0≤n then some n.toNat else none|_=>none
def boundOf (v : Option AV) (d : Nat) : Option Nat:=match v with|some v=>numOf v|none=>some d
def aslice (T : TT) (H : AH) (t : TypeId) (x : AV) (lo hi mx : Option AV) : Option AV :=
 match (T t).d,x with
 | .str,.str s=>match mx,boundOf lo 0,boundOf hi s.length with
   | none,some l,some h=>if l≤h∧h≤s.length then some (.str ((s.take h).drop l)) else none
   | _,_,_=>none
 | .slice e,.lit nl ex cs len=>match boundOf lo 0,boundOf hi len,boundOf mx len with
   | some l,some h,some m=>if l≤h∧h≤m∧m≤len∧h * (T e).size≤cs.length∧(mx.isSome=true→hi.isSome=true) then
     some (.lit nl (if mx.isSome then m==h else ex&&h==len) ((cs.take (h * (T e).size)).drop (l * (T e).size)) (h - l)) else none
   | _,_,_=>none
 | .slice e,.own _ _ nl cs len _=>match boundOf lo 0,boundOf hi len,boundOf mx len with
   | some l,some h,some m=>if l≤h∧h≤m∧m≤len∧h * (T e).size≤cs.length∧(mx.isSome=true→hi.isSome=true) then
     some (.lit nl (if mx.isSome then m==h else false&&h==len) ((cs.take (h * (T e).size)).drop (l * (T e).size)) (h - l)) else none
   | _,_,_=>none
 | .slice e,.ref ex nl b off len sz=>match boundOf lo 0,boundOf hi len,boundOf mx len with
   | some l,some h,some m=>if l≤h∧h≤m∧m≤len∧(T e).size=sz∧(mx.isSome=true→hi.isSome=true) then
     some (.ref (if mx.isSome then m==h else ex&&h==len) nl b (off+l * sz) (h - l) sz) else none
   | _,_,_=>none
 | .arr n e,.ptr b off=>match H[b]?,boundOf lo 0,boundOf hi n,mx with
   | some (.cells cs),some l,some h,none=>if off+n * (T e).size≤cs.length∧n≤maxLen∧l≤h∧h≤n then some (.ref (h==n) false b (off+l * (T e).size) (h - l) (T e).size) else none
   | _,_,_,_=>none
 | _,_=>none
def aindexAddr (T : TT) (t : TypeId) (x i : AV) : Option AV :=
 match i with
 | .int _ i=>match (T t).d,x with
   | .slice e,.ref _ _ l off len sz=>if (T e).size=sz∧0≤i∧i < len then some (.ptr l (off+i.toNat * sz)) else none
   | .slice e,.lit _ _ cs len|.slice e,.own _ _ _ cs len _=>if 0≤i∧i < len∧len * (T e).size≤cs.length∧0 < (T e).size then some (.lptr cs (i.toNat * (T e).size)) else none
   | .arr n e,.ptr l off=>if 0≤i∧i < n then some (.ptr l (off+i.toNat * (T e).size)) else none
   | .arr n e,.lptr cs off=>if 0≤i∧i < n then some (.lptr cs (off+i.toNat * (T e).size)) else none
   | _,_=>none
 | _=>none
def aindex (T : TT) (t : TypeId) (x i : AV) : Option AV :=
 match i with
 | .int _ i=>match (T t).d,x with
   | .str,.str s=>if 0≤i then (s[i.toNat]?).map fun b=>.int .u8 b.toNat else none
   | .arr n e,.agg cs=>if 0≤i∧i < n then apart T e cs (i.toNat * (T e).size) else none
   | _,_=>none
 | _=>none
def byteOf? : AV→Option UInt8
 | .int .u8 n=>some (UInt8.ofNat n.toNat)
 | _=>none
def aconvert (T : TT) (H : AH) (src dst : TypeId) (x : AV) : Option (AV×AH) :=
 if (T src).d.known then match (T dst).d,x with
 | .int k,.int _ n=>some (.int k (k.wrap n),H)
 | .str,.str s=>some (.str s,H)
 | .slice e,.str s=>match (T e).d with
   | .int .u8=>if s.length≤maxLen then some (.ref false false H.length 0 s.length 1,H++[.cells (s.map fun b=>.int .u8 b.toNat)]) else none
   | _=>none
 | .str,x=>match (T src).d,alen x with
   | .slice e,some n=>match (T e).d,acells H (n * 1) x with
     | .int .u8,some cs=>(cs.mapM byteOf?).map fun s=>(.str s,H)
     | _,_=>none
   | _,_=>none
 | _,_=>none
 else none
def feeds (sz : Nat) : AV→Bool
 | .str _=>sz==1
 | _=>true
def notStr : AV→Bool
 | .str _=>false
 | _=>true
def AD.row : AD→Bool
 | .slice _|.str=>true
 | _=>false
def fitsMore (T : TT) (e : TypeId) (n m : Nat) : Prop:=0 < (T e).size∧n+m≤maxLen∧(n+m) * (T e).bytes≤140737488355328
instance {T : TT} {e : TypeId} {n m : Nat} : Decidable (fitsMore T e n m):=inferInstanceAs (Decidable (_∧_))
def roomAt (H : AH) (l ver : Nat) : Option Bool:=match H[l]? with
 | some (.room v real)=>if v=ver then some real else none
 | _=>none
def aappend (T : TT) (H : AH) (sT xT : TypeId) (s x : AV) : Option (AV×AH) :=
 match (T sT).d with
 | .slice e=>if (T xT).d.row∧feeds (T e).size x∧notStr s then match s with
   | .own l ver nl cs n sz=>match alen x with
     | some m=>match acells H (m * (T e).size) x,roomAt H l ver with
       | some new,some real=>if fitsMore T e n m∧sz=(T e).size then
         some (.own l (ver+1) (nl&&m==0) (cs++new) (n+m) sz,H.set l (.room (ver+1) (real || !(m==0)))) else none
       | _,_=>none
     | none=>none
   | s=>match alen s,alen x with
     | some n,some m=>match acells H (n * (T e).size) s,acells H (m * (T e).size) x with
       | some old,some new =>
         if m=0 then some (s,H) else
         if fitsMore T e n m then
          match s with
          | .lit _ true _ _=>some (.ref false false H.length 0 (n+m) (T e).size,H++[.cells (old++new)])
          | .ref true _ _ _ _ sz=>if sz=(T e).size then some (.ref false false H.length 0 (n+m) (T e).size,H++[.cells (old++new)]) else none
          | .ref false _ l _ _ sz=>if sz=(T e).size then some (.ref false false H.length 0 (n+m) (T e).size,H.set l .dead++[.cells (old++new)]) else none
          | _=>none
         else none
       | _,_=>none
     | _,_=>none
   else none
 | _=>none
def aappendF (T : TT) (H : AH) (own : Bool) (sT xT : TypeId) (s x : AV) : Option (AV×AH) :=
 match (T sT).d with
 | .slice e=>if (T xT).d.row∧feeds (T e).size x then match s,alen x with
   | .lit nl true cs n,some m=>match acells H (m * (T e).size) x with
     | some new=>if fitsMore T e n m∧cs.length=n * (T e).size then
       (if own then some (.own H.length 1 (nl&&m==0) (cs++new) (n+m) (T e).size,H++[.room 1 (!(m==0))])
       else some (.lit (nl&&m==0) (m==0) (cs++new) (n+m),H)) else none
     | none=>none
   | _,_=>none
   else none
 | _=>none
def aappendR (T : TT) (H : AH) (sT xT : TypeId) (s x : AV) : Option (AV×AH) :=
 match (T sT).d with
 | .slice e=>if (T xT).d.row∧feeds (T e).size x then match s,alen x with
   | .ref _ nl l _ n sz,some m=>match acells H (n * (T e).size) s,acells H (m * (T e).size) x with
     | some old,some new=>if fitsMore T e n m∧sz=(T e).size then
       some (.ref false (nl&&m==0) H.length 0 (n+m) sz,H.set l .dead++[if nl&&m==0 then .dead else .cells (old++new)]) else none
     | _,_=>none
   | .lit true true [] 0,some m=>match acells H (m * (T e).size) x with
     | some new=>if fitsMore T e 0 m then some (.ref false (m==0) H.length 0 m (T e).size,H++[if m==0 then .dead else .cells new]) else none
     | none=>none
   | _,_=>none
   else none
 | _=>none
def acopy (T : TT) (H : AH) (dT : TypeId) (d x : AV) : Option (AV×AH) :=
 match (T dT).d with
 | .slice e=>if feeds (T e).size x∧notStr d then match alen d,alen x with
   | some n,some m=>match acells H (min m n * (T e).size) x with
     | some new=>match d with
       | .ref _ false l off _ sz=>if sz=(T e).size then (awrite H l off new).map fun H'=>(.int .i64 (min m n : Nat),H') else none
       | _=>if min m n=0 then some (.int .i64 0,H) else none
     | none=>none
   | _,_=>none
   else none
 | _=>none
def amake (T : TT) (H : AH) (t : TypeId) (n c : AV) : Option (AV×AH) :=
 match (T t).d,n,c with
 | .slice e,.int .i64 n,.int .i64 c=>if 0≤n∧n≤c∧c * (T e).bytes≤140737488355328∧c≤maxLen∧0 < (T e).size then
   some (.ref (n==c) false H.length 0 n.toNat (T e).size,H++[.cells (List.replicate n.toNat (T e).zero).flatten]) else none
 | _,_,_=>none
def aconvertF (T : TT) (H : AH) (src dst : TypeId) (x : AV) : Option (AV×AH) :=
 if (T src).d.known then match (T dst).d,x with
 | .slice e,.str s=>match (T e).d with
   | .int .u8=>if s.length≤maxLen∧(T e).size=1 then some (.own H.length 1 false (s.map fun b=>.int .u8 b.toNat) s.length 1,H++[.room 1 true]) else none
   | _=>none
 | _,_=>none
 else none
def amakeF (T : TT) (H : AH) (t : TypeId) (n c : AV) : Option (AV×AH) :=
 match (T t).d,n,c with
 | .slice e,.int .i64 n,.int .i64 c=>if 0≤n∧n≤c∧c * (T e).bytes≤140737488355328∧c≤maxLen∧0 < (T e).size then
   some (.own H.length 1 false (List.replicate n.toNat (T e).zero).flatten n.toNat (T e).size,H++[.room 1 true]) else none
 | _,_,_=>none
end Go.Abs
namespace Go.Abs
def flatv : AV→Bool
 | .bool _|.int _ _|.str _=>true
 | _=>false
def flatEq : AV→AV→Bool
 | .bool a,.bool b=>a==b
 | .int j a,.int k b=>j==k&&a==b
 | .str a,.str b=>a==b
 | _,_=>false
def flatsEq : List AV→List AV→Bool
 | [],[]=>true
 | a::as,b::bs=>flatEq a b&&flatsEq as bs
 | _,_=>false
def keySame : AV→AV→Bool
 | .agg a,.agg b=>flatsEq a b
 | a,b=>flatEq a b
def keyOk (T : TT) (k : TypeId) : Bool :=
 match (T k).d with
 | .bool|.int _|.str=>true
 | .struct fs=>fs.all fun f=>match (T f.2.2).d with
   | .bool|.int _|.str=>true
   | _=>false
 | _=>false
def keyFits (T : TT) (k : TypeId) (v : AV) : Bool :=
 match (T k).d,v with
 | .struct fs,.agg cs=>fs.all fun f=>f.1 || (apart T f.2.2 cs f.2.1).isSome
 | .struct _,_=>false
 | _,_=>true
def afind (T : TT) (k : TypeId) (key : AV) : List (AV×AV)→Nat→Option (Option (Nat×AV×AV))
 | [],_=>some none
 | e::es,i=>match aeq T 10000 k key e.1 with
   | some true=>some (some (i,e.1,e.2))
   | some false=>afind T k key es (i+1)
   | none=>none
def amap (H : AH) (l : Nat) : Option (List (AV×AV)×List Nat×Nat):=match H[l]? with
 | some (.map es bs clock)=>some (es,bs,clock)
 | _=>none
def aentries (H : AH) : AV→Option (List (AV×AV))
 | .nilmap=>some []
 | .map l=>(amap H l).map (·.1)
 | _=>none
def azero (T : TT) (e : TypeId) : Option AV :=
 if (T e).d.known then (if (T e).d.isAgg then some (.agg (T e).zero) else match (T e).zero with
  | [z]=>some z
  | _=>none) else none
def AD.isIface : AD→Bool
 | .iface=>true
 | _=>false
def aassert (T : TT) (t : TypeId) (ok : Bool) : AV→Option AV
 | .iface u v=>if (T t).d.known&&!(T t).d.isIface then (if u=t then some (if ok then .tup [v,.bool true] else v) else if ok then (azero T t).map fun z=>.tup [z,.bool false] else none) else none
 | .nilif=>if (T t).d.known&&!(T t).d.isIface&&ok then (azero T t).map fun z=>.tup [z,.bool false] else none
 | _=>none
def ameth (T : TT) (t : TypeId) (name : String) : Option (FuncId×Bool):=((T t).ms.find? (·.1==name)).map (·.2)
def arecv (T : TT) (H : AH) (t : TypeId) (v : AV) (ld : Bool) : Option AV:=match ld with
 | false=>some v
 | true=>match (T t).d with
   | .ptr e=>aload T H e v
   | _=>none
def ainvoke (T : TT) (H : AH) (name : String) : AV→Option (FuncId×AV)
 | .iface t v=>if (T t).d.known then (ameth T t name).bind fun m=>(arecv T H t v m.2).map fun r=>(m.1,r) else none
 | _=>none
def afound (T : TT) (H : AH) (t : TypeId) (x key : AV) : Option (Option (Nat×AV×AV)) :=
 match (T t).d,aentries H x with
 | .map k _,some es=>if keyOk T k&&keyFits T k key then afind T k key es 0 else none
 | _,_=>none
def alookup (T : TT) (H : AH) (t : TypeId) (x key : AV) (ok : Bool) : Option AV :=
 match (T t).d,afound T H t x key with
 | .map _ _,some (some (_,_,v))=>some (if ok then .tup [v,.bool true] else v)
 | .map _ e,some none=>(azero T e).map fun z=>if ok then .tup [z,.bool false] else z
 | _,_=>none
def aupdate (T : TT) (H : AH) (t : TypeId) (x key v : AV) : Option AH :=
 match (T t).d,x with
 | .map _ _,.map l=>match amap H l,afound T H t x key with
   | some (es,bs,clock),some (some (i,old,_))=>if keySame old key then some (H.set l (.map (es.set i (key,v)) bs clock)) else none
   | some (es,bs,clock),some none=>some (H.set l (.map (es++[(key,v)]) (bs++[clock]) (clock+1)))
   | _,_=>none
 | _,_=>none
def adelete (T : TT) (H : AH) (t : TypeId) (x key : AV) : Option AH :=
 match (T t).d,x with
 | .map k _,.nilmap=>if keyOk T k&&keyFits T k key then some H else none
 | .map _ _,.map l=>match amap H l,afound T H t x key with
   | some (es,bs,clock),some (some (i,_,_))=>some (H.set l (.map (es.eraseIdx i) (bs.eraseIdx i) clock))
   | some _,some none=>some H
   | _,_=>none
 | _,_=>none
def amaplen (H : AH) (x : AV) : Option AV:=(aentries H x).map fun es=>.int .i64 es.length
def arange (T : TT) (H : AH) (t : TypeId) (x : AV) : Option (AV×AH) :=
 match (T t).d,x with
 | .map _ _,.nilmap=>some (.ptr H.length 0,H++[.iter none 0 [] 0])
 | .map _ _,.map l=>(amap H l).map fun m=>(.ptr H.length 0,H++[.iter (some l) m.2.2 [] m.2.2])
 | _,_=>none
def aleft (H : AH) (p : Nat) : Option (List (AV×AV×Nat)×Option (Nat×Nat×List Nat×Nat)) :=
 match H[p]? with
 | some (.iter none _ _ _)=>some ([],none)
 | some (.iter (some l) since seen last)=>match amap H l with
   | some (es,bs,clock)=>if bs.all (fun b=>decide (b < since))&&decide (since≤last)&&es.length==bs.length then
     some (((es.zip bs).filter fun e=>!seen.contains e.2).map fun e=>(e.1.1,e.1.2,e.2),some (l,since,seen,clock)) else none
   | none=>none
 | _=>none
def aentry (H : AH) : AV→Option AV
 | .ptr p 0=>match H[p]? with
   | some (.iter (some l) _ seen stepped)=>match amap H l,seen.getLast? with
     | some (es,bs,clock),some s=>if clock=stepped∧es.length=bs.length then ((es.zip bs).find? fun e=>e.2==s).map fun e=>.tup [e.1.1,e.1.2] else none
     | _,_=>none
   | _=>none
 | _=>none
end Go.Abs
namespace Go.Abs
def abuiltin (T : TT) (H : AH) (b : Builtin) (ts : Array TypeId) (args : List AV) : Option (AV×AH) :=
 match b,ts.toList,args with
 | .len,[t],[x]=>match (T t).d,x with
   | .str,.str s=>some (.int .i64 s.length,H)
   | .slice _,.lit _ _ _ n=>some (.int .i64 n,H)
   | .slice _,.own _ _ _ _ n _=>some (.int .i64 n,H)
   | .slice _,.ref _ _ _ _ n _=>some (.int .i64 n,H)
   | .arr n _,_=>some (.int .i64 n,H)
   | .map _ _,x=>(amaplen H x).map (·,H)
   | _,_=>none
 | .append,[t,u],[s,x]=>aappend T H t u s x
 | .copy,[t,_],[d,x]=>acopy T H t d x
 | .min,_,[.int k a,.int k' b]=>if k=k' then some (.int k (if b < a then b else a),H) else none
 | .max,_,[.int k a,.int k' b]=>if k=k' then some (.int k (if b>a then b else a),H) else none
 | .delete,[t,_],[m,k]=>(adelete T H t m k).map fun H'=>(.tup [],H')
 | .clear,[t],[x]=>match (T t).d,x with
   | .slice _,.lit _ _ _ 0=>some (.tup [],H)
   | .slice e,.ref _ false l off n sz=>if sz=(T e).size∧0 < n then (awrite H l off (List.replicate n (T e).zero).flatten).map fun H'=>(.tup [],H') else if n=0 then some (.tup [],H) else none
   | _,_=>none
 | _,_,_=>none
def aop (T : TT) (G : Nat→Option (List AV)) (fr : List AV) (H : AH) : Op→Option (AV×AH)
 | .move x|.assign x=>(aval G fr x).map (·,H)
 | .pick c a b=>match aval G fr c,aval G fr a,aval G fr b with
   | some (.bool t),some u,some v=>some (bif t then u else v,H)
   | _,_,_=>none
 | .alloc e=>if (T e).d.known then some (.ptr H.length 0,H++[.cells (T e).zero]) else none
 | .box _ x=>((aval G fr x).bind acell).map fun cs=>(.ptr H.length 0,H++[.cells cs])
 | .build t parts=>match parts.toList.mapM fun p=>(aval G fr p.2).map fun v=>(p.1,v) with
   | some ps=>match (T t).d with
     | .struct fs=>(afill (fun i=>(fs[i]?).map fun f=>(f.2.1,(T f.2.2).size)) (T t).zero ps).map fun cs=>(.agg cs,H)
     | .arr _ e=>(afill (fun i=>some (i * (T e).size,(T e).size)) (T t).zero ps).map fun cs=>(.agg cs,H)
     | _=>none
   | none=>none
 | .buildSlice t len parts=>match parts.toList.mapM fun p=>(aval G fr p.2).map fun v=>(p.1,v) with
   | some ps=>match (T t).d with
     | .slice e=>if len * (T e).size≤16777216∧len≤16777216 then
       (afill (fun i=>some (i * (T e).size,(T e).size)) (List.replicate len (T e).zero).flatten ps).map fun cs=>(.ref true false H.length 0 len (T e).size,H++[.cells cs]) else none
     | _=>none
   | none=>none
 | .load t a=>((aval G fr a).bind (aload T H t)).map (·,H)
 | .store t a x=>match aval G fr a,aval G fr x with
   | some p,some v=>(astore T H t p v).map fun H'=>(.tup [],H')
   | _,_=>none
 | .nilCheck x=>match aval G fr x with
   | some .nilptr|some .nilif|some .nilfn|some .any|none=>none
   | some v=>some (v,H)
 | .binOp op t x y _=>match aval G fr x,aval G fr y with
   | some a,some b=>(abin T op t a b).map (·,H)
   | _,_=>none
 | .unOp op _ x=>((aval G fr x).bind (aun op)).map (·,H)
 | .convert s d x=>(aval G fr x).bind (aconvert T H s d)
 | .makeFunc (.func f) first caps=>match first.toList.mapM (aval G fr),caps.toList.mapM (aval G fr) with
   | some fs,some cs=>some (.fn f fs cs,H)
   | _,_=>none
 | .makeSlice t n c=>match aval G fr n,aval G fr c with
   | some n,some c=>amake T H t n c
   | _,_=>none
 | .slice t x lo hi mx=>match aval G fr x,lo.mapM (aval G fr),hi.mapM (aval G fr),mx.mapM (aval G fr) with
   | some x,some lo,some hi,some mx=>(aslice T H t x lo hi mx).map (·,H)
   | _,_,_,_=>none
 | .fieldAddr s x f=>match (T s).d with
   | .struct fs=>match fs[f]?,aval G fr x with
     | some f,some (.ptr l o)=>if (T f.2.2).size=0 then none else some (.ptr l (o+f.2.1),H)
     | some f,some (.lptr cs o)=>if (T f.2.2).size=0 then none else some (.lptr cs (o+f.2.1),H)
     | _,_=>none
   | _=>none
 | .field t x f=>match (T t).d with
   | .struct fs=>match fs[f]?,aval G fr x with
     | some f,some (.agg cs)=>(apart T f.2.2 cs f.2.1).map (·,H)
     | _,_=>none
   | _=>none
 | .indexAddr t x i=>match aval G fr x,aval G fr i with
   | some x,some i=>(aindexAddr T t x i).map (·,H)
   | _,_=>none
 | .index t x i=>match aval G fr x,aval G fr i with
   | some x,some i=>(aindex T t x i).map (·,H)
   | _,_=>none
 | .extract x i=>match aval G fr x with
   | some (.tup cs)=>(cs[i]?).map (·,H)
   | _=>none
 | .makeMap _ none=>some (.map H.length,H++[.map [] [] 0])
 | .range t x=>(aval G fr x).bind (arange T H t)
 | .entry x=>((aval G fr x).bind (aentry H)).map (·,H)
 | .lookup t m k ok=>match aval G fr m,aval G fr k with
   | some m,some k=>(alookup T H t m k ok).map (·,H)
   | _,_=>none
 | .mapUpdate t m k v|.insert t m k v=>match aval G fr m,aval G fr k,aval G fr v with
   | some m,some k,some v=>(aupdate T H t m k v).map fun H'=>(.tup [],H')
   | _,_,_=>none
 | .call { callee:=.builtin b,args,argTypes }=>(args.toList.mapM (aval G fr)).bind (abuiltin T H b argTypes)
 | .makeInterface t x=>if (T t).d.known&&!(T t).d.isIface then (aval G fr x).map fun v=>(.iface t v,H) else none
 | .typeAssert x _ t ok=>((aval G fr x).bind (aassert T t ok)).map (·,H)
 | _=>none
inductive AX where
 | normal
 | exit (id : Nat)
 | ret
abbrev ACall:=FuncId→List AV→AH→(AV→AH→Prop)→Prop
def aput (fr : List AV) (d : Option Tmp) (v : AV) : List AV :=
 match d with
 | some d=>fr.set d v
 | none=>fr
def ayielded (ops : Array Oper) (fr : List AV) (j : Nat) : Option Bool :=
 match ((ops[j]?).bind (·.dst)).bind (fr[·]?) with
 | some (.bool b)=>some b
 | _=>none
def afrozen (T : TT) (G : Nat→Option (List AV)) (fr : List AV) (t : TypeId) (len : Nat) (parts : Array (Nat×Operand)) : Option AV :=
 match parts.toList.mapM fun p=>(aval G fr p.2).map fun v=>(p.1,v) with
 | some ps=>match (T t).d with
   | .slice e=>if len * (T e).size≤16777216∧len≤16777216 then (afill (fun i=>some (i * (T e).size,(T e).size)) (List.replicate len (T e).zero).flatten ps).map fun cs=>.lit false true cs len else none
   | _=>none
 | none=>none
def aalt (T : TT) (G : Nat→Option (List AV)) (fr : List AV) (H : AH) (j : Nat) : Op→Option (AV×AH)
 | .buildSlice t len parts=>(afrozen T G fr t len parts).map (·,H)
 | .call { callee:=.builtin .append,args,argTypes }=>match argTypes.toList,args.toList.mapM (aval G fr) with
   | [t,u],some [s,x]=>if j=2 then aappendR T H t u s x else aappendF T H (j==0) t u s x
   | _,_=>none
 | .convert s d x=>(aval G fr x).bind (aconvertF T H s d)
 | .makeSlice t n c=>match aval G fr n,aval G fr c with
   | some n,some c=>amakeF T H t n c
   | _,_=>none
 | _=>none
def anext (H : AH) : AV→Option (List (AV×AV×Nat)×Nat×Option (Nat×Nat×List Nat×Nat))
 | .ptr p 0=>(aleft H p).map fun r=>(r.1,p,r.2)
 | _=>none
def evRes (r : Option (AV×AH)) (k : AV→AH→Prop) : Prop:=match r with
 | some (v,H')=>k v H'
 | none=>False
def evOp (T : TT) (G : Nat→Option (List AV)) (C : ACall) (fr : List AV) (H : AH) (op : Op) (k : AV→AH→Prop) : Prop :=
 match op with
 | .call { callee:=.value f,args,.. }=>match aval G fr f,args.toList.mapM (aval G fr) with
   | some (.fn g first caps),some as=>C g (first++as++caps) H k
   | _,_=>False
 | .buildSlice t len parts=>evRes (aop T G fr H (.buildSlice t len parts)) k∨∃ j,evRes (aalt T G fr H j (.buildSlice t len parts)) k
 | .call { callee:=.builtin .append,args,argTypes }=>evRes (aop T G fr H (.call { callee:=.builtin .append,args,argTypes })) k∨∃ j,evRes (aalt T G fr H j (.call { callee:=.builtin .append,args,argTypes })) k
 | .convert s d x=>evRes (aop T G fr H (.convert s d x)) k∨∃ j,evRes (aalt T G fr H j (.convert s d x)) k
 | .makeSlice t n c=>evRes (aop T G fr H (.makeSlice t n c)) k∨∃ j,evRes (aalt T G fr H j (.makeSlice t n c)) k
 | .next it false=>match (aval G fr it).bind (anext H) with
   | some ([],_)=>k (.tup [.bool false]) H
   | some (e::L,p,some (l,since,seen,clock))=>∀ e'∈e::L,k (.tup [.bool true,e'.1,e'.2.1]) (H.set p (.iter (some l) since (seen++[e'.2.2]) clock))
   | _=>False
 | .call { callee:=.invoke r name,args,.. }=>match (aval G fr r).bind (ainvoke T H name),args.toList.mapM (aval G fr) with
   | some (g,v),some as=>C g (v::as) H k
   | _,_=>False
 | op=>evRes (aop T G fr H op) k
def evOps (T : TT) (G : Nat→Option (List AV)) (C : ACall) (ops : Array Oper) (K : List AV→AH→Prop) : List Nat→List AV→AH→Prop
 | [],fr,H=>K fr H
 | i::rest,fr,H=>match ops[i]? with
   | none=>evOps T G C ops K rest fr H
   | some o=>if Region.wanted o (ayielded ops fr)=true then evOp T G C fr H o.op (fun v H'=>evOps T G C ops K rest (aput fr o.dst v) H')
     else evOps T G C ops K rest (aput fr o.dst (.tup [])) H
abbrev APost:=AX→List AV→AH→Prop
def Loop (n : Nat) (B : List AV→AH→APost→Prop) (Q : APost) (fr : List AV) (H : AH) : Prop :=
 ∀ I : List AV→AH→Prop,
   (∀ fr H,B fr H (fun e fr' H'=>match e with|.normal=>I fr' H'|e=>Q e fr' H')→I fr H) →
   (∀ fr H fr' H',VS n fr H fr' H'→I fr' H'→I fr H)→I fr H
def ev (T : TT) (G : Nat→Option (List AV)) (mx : Bool) (C : ACall) (n : Nat) : Code→List AV→AH→APost→Prop
 | .skip,fr,H,Q=>Q .normal fr H
 | .region _ ops d,fr,H,Q=>if d then ∀ t,evOps T G C ops (fun fr H=>∃ fr' H',VS n fr H fr' H'∧Q .normal fr' H') (Region.schedule mx ops t) fr H else evOps T G C ops (Q .normal) (List.range ops.size) fr H
 | .seq a b,fr,H,Q=>ev T G mx C n a fr H (fun e fr' H'=>match e with|.normal=>∃ fr2 H2,VS n fr' H' fr2 H2∧ev T G mx C n b fr2 H2 Q|e=>Q e fr' H')
 | .cond c a b,fr,H,Q=>match aval G fr c with
   | some (.bool true)=>ev T G mx C n a fr H Q
   | some (.bool false)=>ev T G mx C n b fr H Q
   | _=>False
 | .block id c,fr,H,Q=>ev T G mx C n c fr H (fun e fr' H'=>match e with|.exit i=>if i=id then Q .normal fr' H' else Q (.exit i) fr' H'|e=>Q e fr' H')
 | .loop c,fr,H,Q=>Loop n (fun fr H Q=>ev T G mx C n c fr H Q) Q fr H
 | .exit id,fr,H,Q=>Q (.exit id) fr H
 | .scope c,fr,H,Q=>ev T G mx C n c fr H Q
 | .label _,fr,H,Q=>Q .normal fr H
 | .ret,fr,H,Q=>Q .ret fr H
 | _,_,_,_=>False
def ares (T : TT) (fr : List AV) (H : AH) : ResultVar→Option AV
 | .tmp t=>some (fr.getD t (.tup []))
 | .cell a t=>aload T H t (fr.getD a (.tup []))
def one : List AV→AV
 | [v]=>v
 | vs=>.tup vs
def aresults (T : TT) (fn : Func) (fr : List AV) (H : AH) : Option AV:=(fn.results.toList.mapM (ares T fr H)).map one
def body (P : Program) (T : TT) (G : Nat→Option (List AV)) (C : ACall) (f : FuncId) (args : List AV) (H : AH) (k : AV→AH→Prop) : Prop :=
 ∃ fn c,P.funcs[f]?=some fn∧fn.body=some c∧(fn.name == "runtime.NumGoroutine")=false ∧
   ev T G (P.follows .mixedOrders) C H.length c (args++List.replicate (fn.ntmps - args.length) (.tup [])) H (fun e fr H' =>
    (match e with|.exit _=>False|_=>True)∧∃ r,aresults T fn fr H'=some r∧∃ r' H'',VS H.length [r] H' [r'] H''∧k r' H'')
theorem evRes_mono {r : Option (AV×AH)} {k k' : AV→AH→Prop} (hk : ∀ r H,k r H→k' r H) (h : evRes r k) : evRes r k':=by
 unfold evRes at h ⊢
 split at h
 ·exact hk _ _ h
 ·exact h.elim
theorem evOp_mono {T : TT} {G : Nat→Option (List AV)} {C C' : ACall} {fr : List AV} {H : AH} {op : Op} {k k' : AV→AH→Prop}
  (hC : ∀ f args H (k k' : AV→AH→Prop),(∀ r H,k r H→k' r H)→C f args H k→C' f args H k') (hk : ∀ r H,k r H→k' r H) (h : evOp T G C fr H op k) : evOp T G C' fr H op k':=by
 unfold evOp at h ⊢
 split at h
 ·split at h
  ·exact hC _ _ _ _ _ hk h
  ·exact h.elim
 ·exact h.imp (evRes_mono hk) fun ⟨j,h⟩=>⟨j,evRes_mono hk h⟩
 ·exact h.imp (evRes_mono hk) fun ⟨j,h⟩=>⟨j,evRes_mono hk h⟩
 ·exact h.imp (evRes_mono hk) fun ⟨j,h⟩=>⟨j,evRes_mono hk h⟩
 ·exact h.imp (evRes_mono hk) fun ⟨j,h⟩=>⟨j,evRes_mono hk h⟩
 ·split at h
  ·exact hk _ _ h
  ·exact fun e' he=>hk _ _ (h e' he)
  ·exact h.elim
 ·split at h
  ·exact hC _ _ _ _ _ hk h
  ·exact h.elim
 ·exact evRes_mono hk h
theorem evOps_mono {T : TT} {G : Nat→Option (List AV)} {C C' : ACall} {ops : Array Oper} {K K' : List AV→AH→Prop}
  (hC : ∀ f args H (k k' : AV→AH→Prop),(∀ r H,k r H→k' r H)→C f args H k→C' f args H k') (hk : ∀ fr H,K fr H→K' fr H) :
  ∀ (l : List Nat) (fr : List AV) (H : AH),evOps T G C ops K l fr H→evOps T G C' ops K' l fr H
 | [],fr,H,h=>hk _ _ h
 | i::rest,fr,H,h=>by
   unfold evOps at h ⊢
   split at h
   ·rename_i h1
    exact evOps_mono hC hk rest _ _ h
   ·rename_i o h1
    split at h
    ·rename_i hw
     rw [if_pos hw]
     exact evOp_mono hC (fun r H' hr=>evOps_mono hC hk rest _ _ hr) h
    ·rename_i hw
     rw [if_neg hw]
     exact evOps_mono hC hk rest _ _ h
theorem ev_mono {T : TT} {G : Nat→Option (List AV)} {mx : Bool} {n : Nat} {C C' : ACall}
  (hC : ∀ f args H (k k' : AV→AH→Prop),(∀ r H,k r H→k' r H)→C f args H k→C' f args H k') :
  ∀ (c : Code) (fr : List AV) (H : AH) (Q Q' : APost),(∀ e fr H,Q e fr H→Q' e fr H)→ev T G mx C n c fr H Q→ev T G mx C' n c fr H Q':=by
 intro c
 induction c with
 | skip=>intro fr H Q Q' hq h; exact hq _ _ _ h
 | region id ops d =>
   intro fr H Q Q' hq h
   unfold ev at h ⊢
   split at h
   ·rename_i hd
    rw [if_pos hd]
    exact fun t=>evOps_mono hC (fun fr H ⟨fr',H',hv,hn⟩=>⟨fr',H',hv,hq .normal _ _ hn⟩) _ _ _ (h t)
   ·rename_i hd
    rw [if_neg hd]
    exact evOps_mono hC (hq .normal) _ _ _ h
 | seq a b iha ihb =>
   intro fr H Q Q' hq h
   unfold ev at h ⊢
   refine iha _ _ _ _ (fun e fr' H' h'=>?_) h
   cases e with
   | normal=>obtain ⟨fr2,H2,hv,h2⟩:=h'; exact ⟨fr2,H2,hv,ihb _ _ _ _ hq h2⟩
   | exit id=>exact hq _ _ _ h'
   | ret=>exact hq _ _ _ h'
 | cond c a b iha ihb =>
   intro fr H Q Q' hq h
   unfold ev at h ⊢
   split at h
   ·exact iha _ _ _ _ hq h
   ·exact ihb _ _ _ _ hq h
   ·exact h.elim
 | block id c ih =>
   intro fr H Q Q' hq h
   unfold ev at h ⊢
   refine ih _ _ _ _ (fun e fr' H' h'=>?_) h
   cases e with
   | normal=>exact hq _ _ _ h'
   | ret=>exact hq _ _ _ h'
   | exit i =>
     simp only at h' ⊢
     split at h'
     ·rename_i e; rw [if_pos e]; exact hq _ _ _ h'
     ·rename_i e; rw [if_neg e]; exact hq _ _ _ h'
 | loop c ih =>
   intro fr H Q Q' hq h
   unfold ev at h ⊢
   intro I h1 h2
   refine h I (fun fr H hB=>h1 fr H ?_) h2
   refine ih _ _ _ _ (fun e fr' H' h'=>?_) hB
   cases e with
   | normal=>exact h'
   | exit id=>exact hq _ _ _ h'
   | ret=>exact hq _ _ _ h'
 | rangeFunc f ps a b _ _=>intro fr H Q Q' hq h; exact h.elim
 | exit id=>intro fr H Q Q' hq h; exact hq _ _ _ h
 | scope c ih=>intro fr H Q Q' hq h; unfold ev at h ⊢; exact ih _ _ _ _ hq h
 | label l=>intro fr H Q Q' hq h; exact hq _ _ _ h
 | goto l=>intro fr H Q Q' hq h; exact h.elim
 | ret=>intro fr H Q Q' hq h; exact hq _ _ _ h
 | refuse w=>intro fr H Q Q' hq h; exact h.elim
def Mono (C : ACall) : Prop:=∀ f args H (k k' : AV→AH→Prop),(∀ r H,k r H→k' r H)→C f args H k→C f args H k'
def Ends (C : ACall) : Prop:=∀ f args H k,C f args H k→∃ v H',k v H'
theorem evRes_ends {r : Option (AV×AH)} {k : AV→AH→Prop} (h : evRes r k) : ∃ v H',k v H':=by
 unfold evRes at h
 split at h
 ·exact ⟨_,_,h⟩
 ·exact h.elim
theorem evOp_ends {T : TT} {G : Nat→Option (List AV)} {C : ACall} {fr : List AV} {H : AH} {op : Op} {k : AV→AH→Prop} (hC : Ends C) (h : evOp T G C fr H op k) : ∃ v H',k v H':=by
 unfold evOp at h
 split at h
 ·split at h
  ·exact hC _ _ _ _ h
  ·exact h.elim
 ·exact h.elim evRes_ends fun ⟨_,h⟩=>evRes_ends h
 ·exact h.elim evRes_ends fun ⟨_,h⟩=>evRes_ends h
 ·exact h.elim evRes_ends fun ⟨_,h⟩=>evRes_ends h
 ·exact h.elim evRes_ends fun ⟨_,h⟩=>evRes_ends h
 ·split at h
  ·exact ⟨_,_,h⟩
  ·exact ⟨_,_,h _ List.mem_cons_self⟩
  ·exact h.elim
 ·split at h
  ·exact hC _ _ _ _ h
  ·exact h.elim
 ·exact evRes_ends h
theorem evOps_ends {T : TT} {G : Nat→Option (List AV)} {C : ACall} {ops : Array Oper} {K : List AV→AH→Prop} (hC : Ends C) : ∀ (l : List Nat) (fr : List AV) (H : AH),evOps T G C ops K l fr H→∃ fr H,K fr H
 | [],fr,H,h=>⟨fr,H,h⟩
 | i::rest,fr,H,h=>by
   unfold evOps at h
   split at h
   ·exact evOps_ends hC rest _ _ h
   ·split at h
    ·obtain ⟨v,H',h'⟩:=evOp_ends hC h
     exact evOps_ends hC rest _ _ h'
    ·exact evOps_ends hC rest _ _ h
theorem ev_ends {T : TT} {G : Nat→Option (List AV)} {mx : Bool} {n : Nat} {C : ACall} (hC : Ends C) : ∀ (c : Code) (fr : List AV) (H : AH) (Q : APost),ev T G mx C n c fr H Q→∃ e fr H,Q e fr H:=by
 intro c
 induction c with
 | skip=>intro fr H Q h; exact ⟨_,_,_,h⟩
 | region id ops d =>
   intro fr H Q h
   unfold ev at h
   split at h
   ·obtain ⟨fr,H,fr',H',_,h⟩:=evOps_ends hC _ _ _ (h 0)
    exact ⟨_,_,_,h⟩
   ·obtain ⟨fr,H,h⟩:=evOps_ends hC _ _ _ h
    exact ⟨_,_,_,h⟩
 | seq a b iha ihb =>
   intro fr H Q h
   unfold ev at h
   obtain ⟨e,fr',H',h'⟩:=iha _ _ _ h
   cases e with
   | normal=>obtain ⟨fr2,H2,_,h2⟩:=h'; exact ihb _ _ _ h2
   | exit id=>exact ⟨_,_,_,h'⟩
   | ret=>exact ⟨_,_,_,h'⟩
 | cond c a b iha ihb =>
   intro fr H Q h
   unfold ev at h
   split at h
   ·exact iha _ _ _ h
   ·exact ihb _ _ _ h
   ·exact h.elim
 | block id c ih =>
   intro fr H Q h
   unfold ev at h
   obtain ⟨e,fr',H',h'⟩:=ih _ _ _ h
   cases e with
   | normal=>exact ⟨_,_,_,h'⟩
   | ret=>exact ⟨_,_,_,h'⟩
   | exit i =>
     simp only at h'
     split at h'
     ·exact ⟨_,_,_,h'⟩
     ·exact ⟨_,_,_,h'⟩
 | loop c ih =>
   intro fr H Q h
   unfold ev at h
   refine h (fun _ _=>∃ e fr H,Q e fr H) (fun fr H hB=>?_) (fun _ _ _ _ _ h=>h)
   obtain ⟨e,fr',H',h'⟩:=ih _ _ _ hB
   cases e with
   | normal=>exact h'
   | exit id=>exact ⟨_,_,_,h'⟩
   | ret=>exact ⟨_,_,_,h'⟩
 | rangeFunc f ps a b _ _=>intro fr H Q h; exact h.elim
 | exit id=>intro fr H Q h; exact ⟨_,_,_,h⟩
 | scope c ih=>intro fr H Q h; unfold ev at h; exact ih _ _ _ h
 | label l=>intro fr H Q h; exact ⟨_,_,_,h⟩
 | goto l=>intro fr H Q h; exact h.elim
 | ret=>intro fr H Q h; exact ⟨_,_,_,h⟩
 | refuse w=>intro fr H Q h; exact h.elim
end Go.Abs
namespace Go.Abs
theorem heap_setCells_other (b : Nat) : ∀ (vs : List Value) (o : Nat) (w : World) (k : Nat),k≠b→(w.setCells b o vs).heap[k]?=w.heap[k]?
 | [],_,_,_,_=>rfl
 | v::r,o,w,k,h=>by
   rw [World.setCells,heap_setCells_other b r _ _ _ h]
   exact heap_setCell_other _ _ _ _ h
theorem heap_setCells_same (b : Nat) : ∀ (vs : List Value) (o : Nat) (w : World) (c : Array Value) (t : TypeId) (fz : Nat×Nat),w.heap[b]?=some (.cells c t fz) →
  ∃ c',(w.setCells b o vs).heap[b]?=some (.cells c' t fz)∧c'.size=c.size∧(∀ i,i < o→c'[i]?=c[i]?)∧(∀ i,o+vs.length≤i→c'[i]?=c[i]?)∧∀ i u,vs[i]?=some u→o+i < c.size→c'[o+i]?=some u
 | [],o,w,c,t,fz,h=>⟨c,h,rfl,fun _ _=>rfl,fun _ _=>rfl,fun i u hu=>by simp at hu⟩
 | v::r,o,w,c,t,fz,h=>by
   have h1 : (w.setCell ⟨b,o,none⟩ v).heap[b]?=some (.cells (c.setIfInBounds o v) t fz):=by
    simp only [World.setCell,Array.getElem?_modify,↓reduceIte,h,Option.map_some]
    rfl
   obtain ⟨c',h2,h3,h4,h5,h6⟩:=heap_setCells_same b r (o+1) _ _ t fz h1
   refine ⟨c',h2,by simpa using h3,fun i hi=>?_,fun i hi=>?_,fun i u hu hs=>?_⟩
   ·rw [h4 i (by omega),Array.getElem?_setIfInBounds_ne (by omega)]
   ·rw [h5 i (by simp at hi; omega),Array.getElem?_setIfInBounds_ne (by simp at hi; omega)]
   ·cases i with
    | zero =>
      simp at hu
      subst hu
      rw [Nat.add_zero,h4 o (by omega)]
      simp at hs
      simp [hs]
    | succ i =>
      have:=h6 i u (by simpa using hu) (by simp; omega)
      rwa [show o+1+i=o+(i+1) by omega] at this
theorem setCells_os (b : Nat) : ∀ (vs : List Value) (o : Nat) (w : World),(w.setCells b o vs).os=w.os∧(w.setCells b o vs).tape=w.tape∧(w.setCells b o vs).output=w.output∧(w.setCells b o vs).heap.size=w.heap.size
 | [],_,_=>⟨rfl,rfl,rfl,rfl⟩
 | v::r,o,w=>by
   rw [World.setCells]
   obtain ⟨h1,h2,h3,h4⟩:=setCells_os b r (o+1) (w.setCell ⟨b,o,none⟩ v)
   exact ⟨h1,h2,h3,by rw [h4]; simp⟩
theorem splice_length {cs vs : List AV} {off : Nat} (h : off+vs.length≤cs.length) : (splice cs off vs).length=cs.length:=by
 simp [splice]; omega
theorem RL.splice {x : Cx} {cs vs : List AV} {us ws : List Value} (h : RL x cs us) (hv : RL x vs ws) (off : Nat) : RL x (splice cs off vs) (us.take off++ws++us.drop (off+ws.length)):=by
 unfold Abs.splice
 rw [← hv.length]
 exact ((h.take off).append hv).append (h.drop _)
theorem splice_cells {cs vs : List AV} {off : Nat} (h1 : ∀ a∈cs,a.isCell=true) (h2 : ∀ a∈vs,a.isCell=true) : ∀ a∈splice cs off vs,a.isCell=true:=by
 intro a ha
 simp only [splice,List.mem_append] at ha
 rcases ha with (ha|ha)|ha
 ·exact h1 a (List.mem_of_mem_take ha)
 ·exact h2 a ha
 ·exact h1 a (List.mem_of_mem_drop ha)
theorem cell_heap {w w' : World} (h : w'.heap=w.heap) (a : Addr) : w'.cell? a=w.cell? a:=by simp only [World.cell?,h]
theorem cell_block {w w' : World} {k i : Nat} (h : w'.heap[k]?=w.heap[k]?) : w'.cell? ⟨k,i,none⟩=w.cell? ⟨k,i,none⟩:=by simp only [World.cell?,h]
theorem Keeps.drawn (x : Cx) {w : World} (h : w.heap=x.w.heap) : Keeps x { x with w:=w } :=
 ⟨fun _ _ _=>⟨rfl,rfl⟩,fun _ _=>⟨Nat.le_refl _,id⟩,Nat.le_refl _,fun _ _ h=>h,fun k _ _ i _=>cell_heap h _,fun k s hs=>by unfold bsz at *; simpa [h] using hs⟩
theorem Rel.lt {x : Cx} {H : AH} (hr : Rel x H) {l : Nat} {b : AB} (h : H[l]?=some b) : l < x.N:=by rw [hr.N]; exact (List.getElem?_eq_some_iff.1 h).1
theorem Rel.drawn {x : Cx} {H : AH} (hr : Rel x H) {w : World} (h : w.heap=x.w.heap) : Rel { x with w:=w } H :=
 ⟨hr.N,fun l b hb=>HoldsB.keeps (Keeps.drawn x h) (hr.lt hb) rfl (fun _=>by rw [h]) (hr.block l b hb),hr.inj,hr.notF,fun k m hk=>by simp only [h]; exact hr.Flt k m hk⟩
theorem Mv.drawn {x : Cx} {H : AH} {w : World} (h : w.heap=x.w.heap) (ho : w.os=x.w.os) (ht : w.tape=x.w.tape) (hu : w.output=x.w.output) : Mv x.N x H { x with w:=w } H :=
 ⟨fun _ _ _=>⟨rfl,rfl⟩,fun _ _=>⟨Nat.le_refl _,id⟩,Nat.le_refl _,Nat.le_refl _,fun _ _ h=>h,(Keeps.drawn x h).heap,(Keeps.drawn x h).sz,by rw [h]; exact Nat.le_refl _,ho,ht,hu,fun k _ _=>by rw [h],fun _ h=>.inl h,fun _ _ h=>.inl h⟩
def Cx.newV (x : Cx) (p : Nat×Nat) (v : Nat) (r : Bool) (w : World) : Cx :=
 { at_:=fun l=>if l=x.N then p else x.at_ l,ver:=fun l=>if l=x.N then v else x.ver l,rl:=fun l=>if l=x.N then r else x.rl l,F:=x.F,N:=x.N+1,w:=w }
abbrev Cx.new (x : Cx) (p : Nat×Nat) (w : World) : Cx:=x.newV p 0 false w
theorem Cx.newV_at (x : Cx) (p : Nat×Nat) (v : Nat) (r : Bool) (w : World) : (x.newV p v r w).at_ x.N=p∧(x.newV p v r w).ver x.N=v∧(x.newV p v r w).rl x.N=r:=by simp [Cx.newV]
theorem Cx.newV_old (x : Cx) (p : Nat×Nat) (v : Nat) (r : Bool) (w : World) {l : Nat} (h : l < x.N) : (x.newV p v r w).at_ l=x.at_ l∧(x.newV p v r w).ver l=x.ver l∧(x.newV p v r w).rl l=x.rl l:=by
 have : l≠x.N:=by omega
 simp [Cx.newV,this]
theorem Cx.new_at (x : Cx) (p : Nat×Nat) (w : World) : (x.new p w).at_ x.N=p:=(x.newV_at p 0 false w).1
theorem Cx.new_ver (x : Cx) (p : Nat×Nat) (w : World) : (x.new p w).ver x.N=0:=(x.newV_at p 0 false w).2.1
theorem Cx.new_old (x : Cx) (p : Nat×Nat) (w : World) {l : Nat} (h : l < x.N) : (x.new p w).at_ l=x.at_ l:=(x.newV_old p 0 false w h).1
theorem Cx.newV_keeps (x : Cx) (p : Nat×Nat) (v : Nat) (r : Bool) (w : World) (hc : ∀ k m,x.F k m→∀ i,i < m→w.cell? ⟨k,i,none⟩=x.w.cell? ⟨k,i,none⟩) (hs : ∀ k s,bsz x.w k=some s→bsz w k=some s) : Keeps x (x.newV p v r w) :=
 ⟨fun l hl _=>⟨(x.newV_old p v r w hl).1,(x.newV_old p v r w hl).2.2⟩,fun l hl=>by rw [(x.newV_old p v r w hl).2.1]; exact ⟨Nat.le_refl _,id⟩,Nat.le_succ _,fun _ _ h=>h,hc,hs⟩
theorem getElem?_app_lt {α : Type} {H : List α} {b : α} {l : Nat} (h : l < H.length) : (H++[b])[l]?=H[l]?:=List.getElem?_append_left h
theorem Live.app {H : AH} {b : AB} {l : Nat} (h : Live (H++[b]) l) : Live H l∨(l=H.length∧b.live=true):=by
 obtain ⟨c,hc,hl⟩:=h
 rcases Nat.lt_trichotomy l H.length with h'|h'|h'
 ·rw [getElem?_app_lt h'] at hc
  exact .inl ⟨c,hc,hl⟩
 ·subst h'
  simp at hc
  subst hc
  exact .inr ⟨rfl,hl⟩
 ·rw [List.getElem?_eq_none (by simp; omega)] at hc
  cases hc
theorem Live.lt {H : AH} {l : Nat} (h : Live H l) : l < H.length:=by
 obtain ⟨c,hc,_⟩:=h
 exact (List.getElem?_eq_some_iff.1 hc).1
theorem bsz_lt {w : World} {k s : Nat} (h : bsz w k=some s) : k < w.heap.size:=by
 rcases Nat.lt_or_ge k w.heap.size with h'|h'
 ·exact h'
 ·simp [bsz,Array.getElem?_eq_none h'] at h
theorem bsz_same {w w' : World} {k s : Nat} (h : w'.heap[k]?=w.heap[k]?) (hs : bsz w k=some s) : bsz w' k=some s:=by
 unfold bsz at *
 rw [h]
 exact hs
theorem Rel.pushV {x : Cx} {H : AH} (hr : Rel x H) (p : Nat×Nat) (v : Nat) (r : Bool) (b : AB) (w' : World) (hsz0 : x.w.heap.size≤w'.heap.size) (hold : ∀ k,k < x.w.heap.size→w'.heap[k]?=x.w.heap[k]?)
  (hos : w'.os=x.w.os) (htp : w'.tape=x.w.tape) (hout : w'.output=x.w.output) (hp : b.live=true→x.w.heap.size≤p.1)
  (hb : Keeps x (x.newV p v r w')→HoldsB (x.newV p v r w') x.N b) :
  Mv x.N x H (x.newV p v r w') (H++[b])∧Rel (x.newV p v r w') (H++[b])∧Keeps x (x.newV p v r w'):=by
 have hsz : ∀ k s,bsz x.w k=some s→bsz w' k=some s:=fun k s hs=>bsz_same (hold k (bsz_lt hs)) hs
 have hcell : ∀ k m,x.F k m→∀ i,i < m→w'.cell? ⟨k,i,none⟩=x.w.cell? ⟨k,i,none⟩:=fun k m hf i _=>cell_block (hold k (hr.Flt k m hf))
 have hk : Keeps x (x.newV p v r w'):=x.newV_keeps p v r w' hcell hsz
 have hb:=hb hk
 refine ⟨⟨hk.at_,hk.ver,Nat.le_refl _,Nat.le_succ _,fun _ _ h=>h,hcell,hsz,hsz0,hos,htp,hout,fun k hk _=>hold k hk,?_,fun k m h=>.inl h⟩,⟨?_,?_,?_,?_,?_⟩,hk⟩
 ·rintro k ⟨l,hl,rfl⟩
  rcases hl.app with h'|⟨rfl,h'⟩
  ·rw [(x.newV_old p v r w' (by rw [hr.N]; exact h'.lt)).1]
   exact .inl ⟨l,h',rfl⟩
  ·rw [← hr.N,(x.newV_at p v r w').1]
   exact .inr (hp h')
 ·show x.N+1=_
  rw [hr.N]; simp
 ·intro l c hc
  rcases Nat.lt_trichotomy l H.length with h'|h'|h'
  ·rw [getElem?_app_lt h'] at hc
   have hl:=hr.lt hc
   exact HoldsB.keeps hk hl (x.newV_old p v r w' hl).2.1 (fun hcl=>hold _ (Own.lt hr ⟨l,⟨_,hc,hcl⟩,rfl⟩)) (hr.block l c hc)
  ·subst h'
   simp at hc
   subst hc
   rw [← hr.N]
   exact hb
  ·rw [List.getElem?_eq_none (by simp; omega)] at hc
   cases hc
 ·intro l m hl hm he
  rcases hl.app with h1|⟨rfl,h1⟩<;>rcases hm.app with h2|⟨rfl,h2⟩
  ·rw [(x.newV_old p v r w' (by rw [hr.N]; exact h1.lt)).1,(x.newV_old p v r w' (by rw [hr.N]; exact h2.lt)).1] at he
   exact hr.inj l m h1 h2 he
  ·rw [(x.newV_old p v r w' (by rw [hr.N]; exact h1.lt)).1,← hr.N,(x.newV_at p v r w').1] at he
   have:=Own.lt hr ⟨l,h1,rfl⟩
   have:=hp h2
   omega
  ·rw [(x.newV_old p v r w' (l:=m) (by rw [hr.N]; exact h2.lt)).1,← hr.N,(x.newV_at p v r w').1] at he
   have:=Own.lt hr ⟨m,h2,rfl⟩
   have:=hp h1
   omega
  ·rfl
 ·intro l c hc hcl m hf
  rcases Nat.lt_trichotomy l H.length with h'|h'|h'
  ·rw [getElem?_app_lt h'] at hc
   rw [(x.newV_old p v r w' (hr.lt hc)).1] at hf ⊢
   exact hr.notF l c hc hcl m hf
  ·subst h'
   simp at hc
   subst hc
   rw [← hr.N,(x.newV_at p v r w').1] at hf
   have:=hr.Flt _ _ hf
   have:=hp hcl
   omega
  ·rw [List.getElem?_eq_none (by simp; omega)] at hc
   cases hc
 ·intro k m hf
  have:=hr.Flt k m hf
  show k < w'.heap.size
  omega
theorem Rel.push {x : Cx} {H : AH} (hr : Rel x H) (o : Obj) (b : AB) (w' : World) (hw : w'.heap=x.w.heap.push o) (hos : w'.os=x.w.os) (htp : w'.tape=x.w.tape) (hout : w'.output=x.w.output)
  (hb : Keeps x (x.new (x.w.heap.size,0) w')→HoldsB (x.new (x.w.heap.size,0) w') x.N b) :
  Mv x.N x H (x.new (x.w.heap.size,0) w') (H++[b])∧Rel (x.new (x.w.heap.size,0) w') (H++[b])∧Keeps x (x.new (x.w.heap.size,0) w') :=
 hr.pushV _ _ _ b w' (by rw [hw]; simp) (fun k hk=>by rw [hw,Array.getElem?_push,if_neg (by omega)]) hos htp hout (fun _=>Nat.le_refl _) hb
theorem set_get {H : AH} {l m : Nat} {b c : AB} (h : (H.set l b)[m]?=some c) : (l=m∧c=b)∨(l≠m∧H[m]?=some c):=by
 by_cases e : l=m
 ·subst e
  rw [List.getElem?_set] at h
  simp at h
  exact .inl ⟨rfl,h.2.symm⟩
 ·rw [List.getElem?_set_ne e] at h
  exact .inr ⟨e,h⟩
theorem Live.dead {H : AH} {l m : Nat} (h : Live (H.set l .dead) m) : Live H m∧m≠l:=by
 obtain ⟨c,hc,hl⟩:=h
 rcases set_get hc with ⟨_,rfl⟩|⟨e,hc⟩
 ·cases hl
 ·exact ⟨⟨c,hc,hl⟩,fun h=>e h.symm⟩
theorem Rel.dead {x : Cx} {H : AH} (hr : Rel x H) (l : Nat) : Rel x (H.set l .dead)∧Mv x.N x H x (H.set l .dead):=by
 refine ⟨⟨by rw [hr.N]; simp,fun m b hb=>?_,fun a b ha hb=>hr.inj a b ha.dead.1 hb.dead.1,fun m b hb hbl=>?_,hr.Flt⟩,?_⟩
 ·rcases set_get hb with ⟨_,rfl⟩|⟨_,hb⟩
  ·trivial
  ·exact hr.block m b hb
 ·rcases set_get hb with ⟨_,rfl⟩|⟨_,hb⟩
  ·cases hbl
  ·exact hr.notF m b hb hbl
 ·have:=Mv.refl (x:=x) H (Nat.le_refl x.N)
  exact { this with own:=fun k ⟨m,hm,e⟩=>.inl ⟨m,hm.dead.1,e⟩ }
theorem Live.set {H : AH} {l m : Nat} {b : AB} (h : Live (H.set l b) m) (hl : Live H l) : Live H m:=by
 by_cases e : l=m
 ·exact e ▸ hl
 ·obtain ⟨c,hc,h'⟩:=h
  rw [List.getElem?_set_ne e] at hc
  exact ⟨c,hc,h'⟩
theorem bsz_of {w : World} {k : Nat} {c : Array Value} {t : TypeId} {fz : Nat×Nat} (h : w.heap[k]?=some (.cells c t fz)) : bsz w k=some c.size:=by unfold bsz; rw [h]
theorem Rel.update {x : Cx} {H : AH} (hr : Rel x H) {l : Nat} {b0 : AB} (b : AB) (hl : H[l]?=some b0) (hl0 : b0.live=true) (hn0 : b0.isRoom=false) (_hbl : b.live=true) (hbn : b.isRoom=false) (w' : World) (hs : w'.heap.size=x.w.heap.size) (ho : ∀ k,k≠(x.at_ l).1→w'.heap[k]?=x.w.heap[k]?)
  (hsz : ∀ s,bsz x.w (x.at_ l).1=some s→bsz w' (x.at_ l).1=some s) (hos : w'.os=x.w.os) (htp : w'.tape=x.w.tape) (hout : w'.output=x.w.output)
  (hb : Keeps x { x with w:=w' }→HoldsB { x with w:=w' } l b) :
  Mv x.N x H { x with w:=w' } (H.set l b)∧Rel { x with w:=w' } (H.set l b)∧Keeps x { x with w:=w' }:=by
 have hlive : Live H l:=⟨_,hl,hl0⟩
 have hsz' : ∀ k s,bsz x.w k=some s→bsz w' k=some s:=fun k s h=>by
  by_cases e : k=(x.at_ l).1
  ·subst e; exact hsz s h
  ·exact bsz_same (ho k e) h
 have hcell : ∀ k m,x.F k m→∀ i,i < m→w'.cell? ⟨k,i,none⟩=x.w.cell? ⟨k,i,none⟩:=fun k m hf i _=>cell_block (ho k (fun e=>hr.hot hl hl0 hn0 (e ▸ hf)))
 have hk : Keeps x { x with w:=w' }:=⟨fun _ _ _=>⟨rfl,rfl⟩,fun _ _=>⟨Nat.le_refl _,id⟩,Nat.le_refl _,fun _ _ h=>h,hcell,hsz'⟩
 have hb:=hb hk
 refine ⟨⟨hk.at_,hk.ver,Nat.le_refl _,Nat.le_refl _,fun _ _ h=>h,hcell,hsz',by rw [hs]; exact Nat.le_refl _,hos,htp,hout,fun k _ hn=>ho k (fun e=>hn ⟨l,hlive,e.symm⟩),?_,fun _ _ h=>.inl h⟩,⟨by simp [hr.N],?_,?_,?_,?_⟩,hk⟩
 ·rintro k ⟨m,hm,rfl⟩
  exact .inl ⟨m,hm.set hlive,rfl⟩
 ·intro m c hc
  rcases set_get hc with ⟨rfl,rfl⟩|⟨e,hc⟩
  ·exact hb
  ·exact HoldsB.keeps hk (hr.lt hc) rfl (fun hcl=>ho _ (fun e'=>e (hr.inj l m hlive ⟨_,hc,hcl⟩ e'.symm))) (hr.block m c hc)
 ·exact fun a b ha hb=>hr.inj a b (ha.set hlive) (hb.set hlive)
 ·intro m c hc hcl k hf
  rcases set_get hc with ⟨rfl,rfl⟩|⟨e,hc⟩
  ·exact absurd hf (hr.hot hl hl0 hn0)
  ·exact hr.notF m c hc hcl k hf
 ·exact fun k m hf=>by show k < w'.heap.size; rw [hs]; exact hr.Flt k m hf
end Go.Abs
namespace Go.Abs
def closed : AV→Option Value
 | .bool b=>some (.bool b)
 | .int k n=>some (.int k n)
 | .str s=>some (.string ⟨s.toArray⟩)
 | .nilptr=>some (.pointer none)
 | .lit true _ [] 0=>some (.slice none 0 0)
 | .nilfn=>some .nilFunc
 | .nilmap=>some (.map none)
 | .nilif=>some .nilIface
 | _=>none
def DescOk (P : Program) (t : TypeId) : AD→Prop
 | .bool=>P.underlying t=some .bool
 | .int k=>P.underlying t=some (.int k)
 | .str=>P.underlying t=some .string
 | .ptr e=>P.underlying t=some (.pointer e)
 | .slice e=>P.underlying t=some (.slice e)
 | .arr n e=>P.underlying t=some (.array n e)
 | .struct fs=>∃ fields,P.underlying t=some (.struct fields)∧fs=fields.toList.map fun f=>(f.name == "_",f.offset,f.type)
 | .map k e=>P.underlying t=some (.map k e)
 | .func=>∃ ps rs v,P.underlying t=some (.func ps rs v)
 | .iface=>∃ ms,P.underlying t=some (.interface ms)
 | .other=>False
def isAggV : Value→Bool
 | .agg _=>true
 | _=>false
def isPtrDesc : Option TypeDesc→Bool
 | some (.pointer _)=>true
 | _=>false
def MethOk (P : Program) (t : TypeId) (m : String×FuncId×Bool) : Prop :=
 ∃ i row p,P.info? t=some i∧i.methods.find? (·.name==m.1)=some row∧row.path=#[]∧row.func=some (m.2.1,p)∧(if m.2.2 then isPtrDesc (P.underlying t)=true∧p=false else isPtrDesc (P.underlying t)=p)
structure TyInfo (P : Program) (t : TypeId) (a : AT) : Prop where
 meth : ∀ m∈a.ms,MethOk P t m
 info : ∃ i z,P.info? t=some i∧i.size=a.size∧i.bytes=a.bytes∧i.zero=some z∧z.cells.size=i.size∧a.zero.mapM closed=some z.cells.toList
 desc : DescOk P t a.d
 eq : a.eqOk=true→P.eqGuardType P.depth t=false∧P.stoodInHeld t=false
 zagg : ∀ i z,P.info? t=some i→i.zero=some z→isAggV z=a.d.isAgg
structure TyOk (P : Program) (T : TT) : Prop where
 ty : ∀ t,(T t).d.known=true→TyInfo P t (T t)
 sub : ∀ t,(T t).d.known=true→∀ e∈(T t).d.subs,(T e).d.known=true
theorem R.closed {x : Cx} {a : AV} {v : Value} (h : closed a=some v) : R x a v∧a.isCell=true:=by
 unfold Abs.closed at h
 split at h<;>first
  | (cases h; done)
  | (cases h; simp [R,AV.isCell]; done)
theorem RL.closed {x : Cx} : ∀ {as : List AV} {vs : List Value},as.mapM closed=some vs→RL x as vs∧∀ a∈as,a.isCell=true
 | [],vs,h=>by simp at h; subst h; simp [RL]
 | a::as,vs,h=>by
   simp only [List.mapM_cons,Option.bind_eq_bind,Option.bind_eq_some_iff,Option.pure_def,Option.some.injEq] at h
   obtain ⟨v,hv,r,hr,rfl⟩:=h
   have h1:=R.closed (x:=x) hv
   have h2:=RL.closed (x:=x) hr
   refine ⟨⟨v,r,rfl,h1.1,h2.1⟩,fun b hb=>?_⟩
   rcases List.mem_cons.1 hb with rfl|hb
   ·exact h1.2
   ·exact h2.2 b hb
section
variable {P : Program} {T : TT} (hT : TyOk P T)
include hT
theorem TyOk.size {t : TypeId} (h : (T t).d.known=true) (w : World) : (sizeOf t).run P w=.ok (T t).size w:=by
 obtain ⟨i,z,hi,hs,_⟩:=(hT.ty t h).info
 simp [sizeOf,typeInfo,hi,hs]
theorem TyOk.zero {t : TypeId} (h : (T t).d.known=true) (w : World) : ∃ z,(zeroValue t).run P w=.ok z w∧∀ x,RL x (T t).zero z.cells.toList∧∀ a∈(T t).zero,a.isCell=true:=by
 obtain ⟨i,z,hi,hs,hb,hz,hzs,hm⟩:=(hT.ty t h).info
 exact ⟨z,by simp [zeroValue,typeInfo,hi,hz],fun x=>RL.closed hm⟩
theorem TyOk.isAgg {t : TypeId} (h : (T t).d.known=true) (w : World) : (isAgg t).run P w=.ok (T t).d.isAgg w:=by
 have hd:=(hT.ty t h).desc
 unfold Go.isAgg
 cases hk : (T t).d<;>rw [hk] at hd<;>simp only [DescOk] at hd
 case struct fs=>obtain ⟨fields,hu,_⟩:=hd; simp [run_underlying hu,AD.isAgg]
 case func=>obtain ⟨_,_,_,hu⟩:=hd; simp [run_underlying hu,AD.isAgg]
 case iface=>obtain ⟨_,hu⟩:=hd; simp [run_underlying hu,AD.isAgg]
 all_goals simp [run_underlying hd,AD.isAgg]
theorem part_sound {x : Cx} {t : TypeId} {as : List AV} {vs : List Value} {off : Nat} {v : AV} (hl : RL x as vs) (hc : ∀ a∈as,a.isCell=true) (h : apart T t as off=some v) (w : World) :
  ∃ u,(part t vs.toArray off).run P w=.ok u w∧R x v u:=by
 unfold apart at h
 split at h
 ·rename_i hk
  have h1:=TyOk.isAgg hT hk w
  have h2:=TyOk.size hT hk w
  split at h
  ·rename_i ha
   split at h
   ·rename_i hb
    cases h
    refine ⟨.agg ((vs.drop off).take (T t).size).toArray,?_,?_⟩
    ·unfold part
     simp only [Sem.run_bind,h1,Result.andThen_ok,ha,if_true,h2,Sem.run_pure]
     congr 2
     apply Array.ext'
     simp [List.take_drop]
    ·simp only [R]
     exact ⟨fun a ha=>hc a (List.mem_of_mem_drop (List.mem_of_mem_take ha)),_,rfl,(hl.drop off).take _⟩
   ·cases h
  ·rename_i ha
   obtain ⟨u,hu,hr⟩:=hl.get h
   refine ⟨u,?_,hr⟩
   unfold part
   simp only [Sem.run_bind,h1,Result.andThen_ok,ha,if_false,Bool.false_eq_true]
   simp [hu]
 ·cases h
end
end Go.Abs
namespace Go.Abs
theorem toList_bytes (s : List UInt8) : (⟨s.toArray⟩ : ByteArray).toList=s:=by
 rw [ByteArray.toList_eq]
theorem R.cvCell {x : Cx} {a : AV} {v : Value} (h : cvCell v=some a) : R x a v∧a.isCell=true:=by
 unfold Abs.cvCell at h
 split at h<;>first
  | (cases h; done)
  | (cases h; simp [R,AV.isCell]; done)
theorem RL.cvCell {x : Cx} : ∀ {vs : List Value} {as : List AV},vs.mapM cvCell=some as→RL x as vs∧∀ a∈as,a.isCell=true
 | [],as,h=>by simp at h; subst h; simp [RL]
 | v::vs,as,h=>by
   simp only [List.mapM_cons,Option.bind_eq_bind,Option.bind_eq_some_iff,Option.pure_def,Option.some.injEq] at h
   obtain ⟨a,ha,r,hr,rfl⟩:=h
   have h1:=R.cvCell (x:=x) ha
   have h2:=RL.cvCell (x:=x) hr
   refine ⟨⟨v,vs,rfl,h1.1,h2.1⟩,fun b hb=>?_⟩
   rcases List.mem_cons.1 hb with rfl|hb
   ·exact h1.2
   ·exact h2.2 b hb
theorem R.cv {x : Cx} {a : AV} {v : Value} (h : cv v=some a) : R x a v:=by
 unfold Abs.cv at h
 split at h
 ·rename_i vs
  split at h
  ·rename_i h0
   cases h
   simp only [R]
   exact ⟨[],by simp [Array.eq_empty_of_size_eq_zero h0],rfl⟩
  ·cases h
 ·rename_i cs
  simp only [Option.map_eq_some_iff] at h
  obtain ⟨as,h1,rfl⟩:=h
  have:=RL.cvCell (x:=x) h1
  simp only [R]
  exact ⟨this.2,cs.toList,by simp,this.1⟩
 ·exact (R.cvCell h).1
def GOk (G : Nat→Option (List AV)) (x : Cx) : Prop:=∀ g cs,G g=some cs→∃ vs,cs.mapM closed=some vs∧x.F g cs.length∧∀ i u,vs[i]?=some u→x.w.cell? ⟨g,i,none⟩=some u
theorem GOk.lptr {G : Nat→Option (List AV)} {x : Cx} (h : GOk G x) {g : Nat} {cs : List AV} (hg : G g=some cs) : R x (.lptr cs 0) (.pointer (some ⟨g,0,none⟩)):=by
 obtain ⟨vs,h1,h2,h3⟩:=h g cs hg
 have hc:=RL.closed (x:=x) h1
 simp only [R]
 exact ⟨g,0,vs,rfl,by rw [Nat.zero_add]; exact .of h2,hc.1,hc.2,fun i u hu=>by rw [Nat.zero_add]; exact h3 i u hu⟩
theorem GOk.mv {G : Nat→Option (List AV)} {n : Nat} {x y : Cx} {H H' : AH} (h : GOk G x) (_hr : Rel x H) (hm : Mv n x H y H') : GOk G y:=fun g cs hg=>by
 obtain ⟨vs,h1,h2,h3⟩:=h g cs hg
 refine ⟨vs,h1,hm.F g _ h2,fun i u hu=>?_⟩
 have hc:=RL.length (RL.closed (x:=x) h1).1
 rw [hm.same g _ h2 i (by have:=(List.getElem?_eq_some_iff.1 hu).1; omega)]
 exact h3 i u hu
theorem aval_sound {G : Nat→Option (List AV)} {x : Cx} {fr : List AV} {a : Act} (hG : GOk G x) (hl : RL x fr a.tmps.toList) {o : Operand} {v : AV} (h : aval G fr o=some v) : R x v (a.eval o):=by
 cases o with
 | tmp t =>
   simp only [aval,Option.some.injEq] at h
   subst h
   simp only [Act.eval]
   rcases Nat.lt_or_ge t fr.length with ht|ht
   ·obtain ⟨u,hu,hr⟩:=hl.get (List.getElem?_eq_getElem ht)
    rw [Array.getElem?_toList] at hu
    rw [List.getD_eq_getElem?_getD,List.getElem?_eq_getElem ht,Array.getD_eq_getD_getElem?,hu]
    exact hr
   ·rw [List.getD_eq_getElem?_getD,List.getElem?_eq_none ht,Array.getD_eq_getD_getElem?,Array.getElem?_eq_none (by rw [← Array.length_toList,hl.length]; exact ht)]
    simp only [Option.getD_none,R]
    exact ⟨[],rfl,rfl⟩
 | const v=>exact R.cv h
 | global g =>
   simp only [aval,Option.map_eq_some_iff] at h
   obtain ⟨cs,h1,rfl⟩:=h
   exact hG.lptr h1
 | func f =>
   simp only [aval,Option.some.injEq] at h
   subst h
   simp only [R,Act.eval]
   exact ⟨[],[],rfl,rfl,rfl⟩
section
variable {P : Program} {T : TT} (hT : TyOk P T)
include hT
theorem eqFields_sound (d : Nat) {x : Cx} (ih : ∀ (t : TypeId) (a b : AV) (u v : Value) (r : Bool) (w : World),R x a u→R x b v→aeq T d t a b=some r→(Op.equalIn d t u v).run P w=.ok r w)
  {as bs : List AV} {us vs : List Value} (ha : RL x as us) (hac : ∀ a∈as,a.isCell=true) (hb : RL x bs vs) (hbc : ∀ a∈bs,a.isCell=true) :
  ∀ (fs : List Field) (r : Bool) (w : World),allM (fun f : Bool×Nat×TypeId=>if f.1 then some true else
    match apart T f.2.2 as f.2.1,apart T f.2.2 bs f.2.1 with
    | some a,some b=>aeq T d f.2.2 a b
    | _,_=>none) (fs.map fun f=>(f.name == "_",f.offset,f.type))=some r→(Op.eqFields d us.toArray vs.toArray fs).run P w=.ok r w
 | [],r,w,h=>by
   simp only [List.map_nil,allM,Option.some.injEq] at h
   subst h
   simp [Op.eqFields]
 | f::fs,r,w,h=>by
   simp only [List.map_cons,allM] at h
   by_cases hn : f.name = "_"
   ·simp only [hn,beq_self_eq_true,if_true] at h
    have:=eqFields_sound d ih ha hac hb hbc fs r w h
    simpa [Op.eqFields,hn] using this
   ·have hn' : (f.name == "_")=false:=by simpa using hn
    simp only [hn',Bool.false_eq_true,if_false] at h
    cases h1 : apart T f.type as f.offset with
    | none=>simp [h1] at h
    | some a =>
      cases h2 : apart T f.type bs f.offset with
      | none=>simp [h1,h2] at h
      | some b =>
        simp only [h1,h2] at h
        obtain ⟨u,hu,hur⟩:=part_sound hT ha hac h1 w
        obtain ⟨v,hv,hvr⟩:=part_sound hT hb hbc h2 w
        cases h3 : aeq T d f.type a b with
        | none=>simp [h3] at h
        | some q =>
          have h4:=ih f.type a b u v q w hur hvr h3
          simp only [h3] at h
          simp only [Op.eqFields,hn,ne_eq,not_false_eq_true,if_true,Sem.run_bind,hu,hv,h4,Result.andThen_ok]
          cases q with
          | true =>
            simp only [Bool.not_true,Bool.false_eq_true,if_false]
            exact eqFields_sound d ih ha hac hb hbc fs r w h
          | false =>
            simp only [Option.some.injEq] at h
            subst h
            simp
theorem eqItems_sound (d : Nat) {x : Cx} (ih : ∀ (t : TypeId) (a b : AV) (u v : Value) (r : Bool) (w : World),R x a u→R x b v→aeq T d t a b=some r→(Op.equalIn d t u v).run P w=.ok r w)
  {e : TypeId} {as bs : List AV} {us vs : List Value} (ha : RL x as us) (hac : ∀ a∈as,a.isCell=true) (hb : RL x bs vs) (hbc : ∀ a∈bs,a.isCell=true) :
  ∀ (is : List Nat) (r : Bool) (w : World),allM (fun i=>match apart T e as (i * (T e).size),apart T e bs (i * (T e).size) with
    | some a,some b=>aeq T d e a b
    | _,_=>none) is=some r→(Op.eqItems d e (T e).size us.toArray vs.toArray is).run P w=.ok r w
 | [],r,w,h=>by
   simp only [allM,Option.some.injEq] at h
   subst h
   simp [Op.eqItems]
 | i::is,r,w,h=>by
   simp only [allM] at h
   cases h1 : apart T e as (i * (T e).size) with
   | none=>simp [h1] at h
   | some a =>
     cases h2 : apart T e bs (i * (T e).size) with
     | none=>simp [h1,h2] at h
     | some b =>
       simp only [h1,h2] at h
       obtain ⟨u,hu,hur⟩:=part_sound hT ha hac h1 w
       obtain ⟨v,hv,hvr⟩:=part_sound hT hb hbc h2 w
       cases h3 : aeq T d e a b with
       | none=>simp [h3] at h
       | some q =>
         have h4:=ih e a b u v q w hur hvr h3
         simp only [h3] at h
         simp only [Op.eqItems,Sem.run_bind,hu,hv,h4,Result.andThen_ok]
         cases q with
         | true =>
           simp only [Bool.not_true,Bool.false_eq_true,if_false]
           exact eqItems_sound d ih ha hac hb hbc is r w h
         | false =>
           simp only [Option.some.injEq] at h
           subst h
           simp
end
end Go.Abs
namespace Go.Abs
section
variable {P : Program} {T : TT} (hT : TyOk P T)
include hT
theorem TyOk.desc {t : TypeId} {d : AD} (h : (T t).d=d) (hk : d.known=true) : DescOk P t d:=by
 subst h
 exact (hT.ty t hk).desc
theorem aeq_sound {x : Cx} : ∀ (d : Nat) (t : TypeId) (a b : AV) (u v : Value) (r : Bool) (w : World),R x a u→R x b v→aeq T d t a b=some r→(Op.equalIn d t u v).run P w=.ok r w
 | 0,t,a,b,u,v,r,w,ha,hb,h=>by simp [aeq] at h
 | d+1,t,a,b,u,v,r,w,ha,hb,h=>by
   have ih:=fun t a b u v r w=>aeq_sound (x:=x) d t a b u v r w
   unfold aeq at h
   split at h
   ·rename_i hd
    have hu:=TyOk.desc hT hd rfl
    simp only [DescOk] at hu
    simp only [R] at ha hb; subst ha hb
    cases h
    simp [Op.equalIn,run_underlying hu]
   ·rename_i hd
    have hu:=TyOk.desc hT hd rfl
    simp only [DescOk] at hu
    simp only [R] at ha hb; subst ha hb
    split at h
    ·rename_i hk
     subst hk
     cases h
     simp [Op.equalIn,run_underlying hu]
    ·cases h
   ·rename_i hd
    have hu:=TyOk.desc hT hd rfl
    simp only [DescOk] at hu
    simp only [R] at ha hb; subst ha hb
    cases h
    rw [run_equalIn_string w d t _ _ hu,toList_bytes,toList_bytes]
   ·rename_i hd
    have hu:=TyOk.desc hT hd rfl
    simp only [DescOk] at hu
    simp only [R] at ha hb; subst ha hb
    cases h
    simp [Op.equalIn,run_underlying hu]
   ·rename_i hd
    have hu:=TyOk.desc hT hd rfl
    simp only [DescOk] at hu
    simp only [R] at ha hb; subst ha; obtain ⟨_,_,rfl⟩:=hb
    cases h
    simp [Op.equalIn,run_underlying hu]
   ·rename_i hd
    have hu:=TyOk.desc hT hd rfl
    simp only [DescOk] at hu
    simp only [R] at ha hb; subst hb; obtain ⟨_,_,rfl⟩:=ha
    cases h
    simp [Op.equalIn,run_underlying hu]
   ·rename_i hd
    have hu:=TyOk.desc hT hd rfl
    simp only [DescOk] at hu
    simp only [R] at ha hb
    cases h
    rcases hb with ⟨⟨pb,hpb,rfl⟩,_⟩|⟨hb,_⟩
    ·obtain rfl : pb=none:=by cases pb with|none=>rfl|some a=>cases hpb
     rcases ha with ⟨⟨p,hn,rfl⟩,_⟩|⟨hn,b0,o,cap,vs,rfl,_⟩
     ·subst hn; cases p<;>simp [Op.equalIn,run_underlying hu]
     ·subst hn; simp [Op.equalIn,run_underlying hu]
    ·cases hb
   ·rename_i hd
    have hu:=TyOk.desc hT hd rfl
    simp only [DescOk] at hu
    simp only [R] at ha hb
    cases h
    rcases hb with ⟨⟨pb,hpb,rfl⟩,_⟩|⟨hb,_⟩
    ·obtain rfl : pb=none:=by cases pb with|none=>rfl|some a=>cases hpb
     rcases ha with ⟨_,⟨⟨p,hn,rfl⟩,_⟩|⟨hn,b0,o,cap,vs,rfl,_⟩⟩
     ·subst hn; cases p<;>simp [Op.equalIn,run_underlying hu]
     ·subst hn; simp [Op.equalIn,run_underlying hu]
    ·cases hb
   ·rename_i hd
    have hu:=TyOk.desc hT hd rfl
    simp only [DescOk] at hu
    simp only [R] at ha hb
    cases h
    rcases hb with ⟨⟨pb,hpb,rfl⟩,_⟩|⟨hb,_⟩
    ·obtain rfl : pb=none:=by cases pb with|none=>rfl|some a=>cases hpb
     rcases ha with ⟨_,⟨hn,rfl,_⟩|⟨hn,cap,S,o,rfl,_⟩⟩
     ·subst hn; simp [Op.equalIn,run_underlying hu]
     ·subst hn; simp [Op.equalIn,run_underlying hu]
    ·cases hb
   ·rename_i hd
    have hu:=TyOk.desc hT hd rfl
    simp only [DescOk] at hu
    simp only [R] at ha hb; subst ha hb
    cases h
    simp [Op.equalIn,run_underlying hu]
   ·rename_i hd
    have hu:=TyOk.desc hT hd rfl
    simp only [DescOk] at hu
    simp only [R] at ha hb; subst hb; obtain ⟨_,_,rfl⟩:=ha
    cases h
    simp [Op.equalIn,run_underlying hu]
   ·rename_i hd
    have hu:=TyOk.desc hT hd rfl
    simp only [DescOk] at hu
    obtain ⟨_,_,_,hu⟩:=hu
    simp only [R] at ha hb; subst ha hb
    cases h
    simp [Op.equalIn,run_underlying hu]
   ·rename_i hd
    have hu:=TyOk.desc hT hd rfl
    simp only [DescOk] at hu
    obtain ⟨_,_,_,hu⟩:=hu
    simp only [R] at ha hb; subst hb; obtain ⟨_,_,rfl,_⟩:=ha
    cases h
    simp [Op.equalIn,run_underlying hu]
   ·rename_i fs xs ys hd
    have hu:=TyOk.desc hT hd rfl
    simp only [DescOk] at hu
    obtain ⟨fields,hu,rfl⟩:=hu
    simp only [R] at ha hb
    obtain ⟨hac,us,rfl,ha⟩:=ha
    obtain ⟨hbc,vs,rfl,hb⟩:=hb
    split at h
    ·rename_i he
     have hf : P.fieldsOf t=fields:=by simp [Program.fieldsOf,hu]
     have hs:=(hT.ty t (by rw [hd]; rfl)).eq he
     rw [run_equalIn_struct w d t _ _ (by rw [hf]; exact hu) hs.2,hf]
     exact eqFields_sound hT d ih ha hac hb hbc _ r w h
    ·cases h
   ·rename_i n e xs ys hd
    have hu:=TyOk.desc hT hd rfl
    simp only [DescOk] at hu
    simp only [R] at ha hb
    obtain ⟨hac,us,rfl,ha⟩:=ha
    obtain ⟨hbc,vs,rfl,hb⟩:=hb
    have hk:=hT.sub t (by rw [hd]; rfl) e (by rw [hd]; simp [AD.subs])
    obtain ⟨i,z,hi,hs,_⟩:=(hT.ty e hk).info
    split at h
    ·rw [run_equalIn_array w d _ _ hu hi,show P.cellsOf e=(T e).size by simp [Program.cellsOf,hi,hs]]
     exact eqItems_sound hT d ih ha hac hb hbc _ r w h
    ·cases h
   ·cases h
theorem aeq_guard {x : Cx} {d : Nat} {t : TypeId} {a b : AV} {u v : Value} {r : Bool} (ha : R x a u) (hb : R x b v) (h : aeq T d t a b=some r) (op : BinOp) (o p : Operand) (w : World) : (eqGuard op t o p u v).run P w=.ok () w:=by
 cases d with
 | zero=>simp [aeq] at h
 | succ d =>
   unfold aeq at h
   split at h
   all_goals first
    | (cases h; done)
    | (simp only [R] at ha hb
       first
        | (subst ha hb; unfold eqGuard; simp; done)
        | (subst ha; obtain ⟨_,_,rfl⟩:=hb; unfold eqGuard; simp; done)
        | (subst hb; obtain ⟨_,_,rfl⟩:=ha; unfold eqGuard; simp; done)
        | (subst hb; obtain ⟨_,_,rfl,_⟩:=ha; unfold eqGuard; simp; done)
        | (rcases hb with ⟨⟨p,hpn,rfl⟩,_⟩|⟨_,_,_,_,_,rfl,_⟩<;>rcases ha with ⟨⟨p,hpn,rfl⟩,_⟩|⟨_,_,_,_,_,rfl,_⟩<;>unfold eqGuard<;>simp; done)
        | (rcases hb with ⟨⟨p,hpn,rfl⟩,_⟩|⟨_,_,_,_,_,rfl,_⟩<;>rcases ha with ⟨_,⟨⟨p,hpn,rfl⟩,_⟩|⟨_,_,_,_,_,rfl,_⟩⟩<;>unfold eqGuard<;>simp; done)
        | (rcases hb with ⟨⟨p,hpn,rfl⟩,_⟩|⟨_,_,_,_,_,rfl,_⟩<;>obtain ⟨_,_,_,_,_,rfl,_⟩:=ha<;>unfold eqGuard<;>simp; done)
        | skip)
   ·rename_i hd
    obtain ⟨_,us,rfl,_⟩:=ha
    obtain ⟨_,vs,rfl,_⟩:=hb
    split at h
    ·rename_i he
     exact run_eqGuard_agg w op t o p _ _ ((hT.ty t (by rw [hd]; rfl)).eq he).1
    ·cases h
   ·rename_i hd
    obtain ⟨_,us,rfl,_⟩:=ha
    obtain ⟨_,vs,rfl,_⟩:=hb
    split at h
    ·rename_i he
     exact run_eqGuard_agg w op t o p _ _ ((hT.ty t (by rw [hd]; rfl)).eq he).1
    ·cases h
end
end Go.Abs
namespace Go.Abs
theorem aarith_sound {op : BinOp} {k : IntKind} {a b : Int} {r : AV} {x : Cx} (h : aarith op k a b=some r) (P : Program) (t : TypeId) (w : World) : ∃ q,(Go.binOp op t (.int k a) (.int k b)).run P w=.ok q w∧R x r q:=by
 cases op<;>simp only [aarith,ile_eq,dle_not] at h
 case quo =>
  split at h
  ·cases h
  ·rename_i hb
   cases h
   exact ⟨_,by simp [Go.binOp,Op.intDiv,hb],rfl⟩
 case rem =>
  split at h
  ·cases h
  ·rename_i hb
   cases h
   exact ⟨_,by simp [Go.binOp,Op.intDiv,hb],rfl⟩
 all_goals first
  | (cases h; done)
  | (cases h; exact ⟨_,by simp [Go.binOp,Op.intArith,Op.intBits,Op.intCmp],rfl⟩)
theorem ashift_sound {op : BinOp} {k k' : IntKind} {a b : Int} {r : AV} {x : Cx} (h : ashift op k a b=some r) (P : Program) (t : TypeId) (w : World) : ∃ q,(Go.binOp op t (.int k a) (.int k' b)).run P w=.ok q w∧R x r q:=by
 unfold ashift at h
 split at h
 ·cases h
 ·rename_i hb
  cases op<;>simp only at h<;>first
   | (cases h; done)
   | (cases h; exact ⟨_,by simp [Go.binOp,Op.shift,hb],rfl⟩)
theorem astr_sound {op : BinOp} {a b : List UInt8} {r : AV} {x : Cx} (h : astr op a b=some r) (P : Program) (t : TypeId) (w : World) : ∃ q,(Go.binOp op t (.string ⟨a.toArray⟩) (.string ⟨b.toArray⟩)).run P w=.ok q w∧R x r q:=by
 cases op<;>simp only [astr] at h
 case add =>
  split at h
  ·rename_i hl
   cases h
   have h2 : ¬ (9223372036854775807 : Int) < ((a.length+b.length : Nat) : Int):=by omega
   refine ⟨.string (⟨a.toArray⟩++⟨b.toArray⟩),?_,?_⟩
   ·have hs : (ByteArray.size ⟨a.toArray⟩+ByteArray.size ⟨b.toArray⟩ : Nat)=a.length+b.length:=by simp [ByteArray.size]
    simp only [Go.binOp,Op.stringOp,hs]
    rw [if_neg (by simpa [IntKind.max,IntKind.signed,IntKind.bits] using h2)]
    rfl
   ·simp only [R]
    congr 1
  ·cases h
 all_goals first
  | (cases h; done)
  | (cases h; exact ⟨_,by simp only [Go.binOp,Op.stringOp,toList_bytes]; rfl,by simp [R]⟩)
theorem aun_sound {op : UnOp} {a r : AV} {u : Value} {x : Cx} (ha : R x a u) (h : aun op a=some r) (P : Program) (w : World) : ∃ q,(Op.unary op u).run P w=.ok q w∧R x r q:=by
 unfold aun at h
 split at h
 ·cases h; simp only [R] at ha; subst ha
  exact ⟨_,rfl,rfl⟩
 ·cases h; simp only [R] at ha; subst ha
  exact ⟨_,rfl,rfl⟩
 ·cases h; simp only [R] at ha; subst ha
  exact ⟨_,rfl,rfl⟩
 ·cases h
section
variable {P : Program} {T : TT} (hT : TyOk P T)
include hT
theorem abin_sound {op : BinOp} {t : TypeId} {a b r : AV} {u v : Value} {x : Cx} (ha : R x a u) (hb : R x b v) (h : abin T op t a b=some r) (o p : Operand) (w : World) :
  ∃ q,(do eqGuard op t o p u v; Go.binOp op t u v : Sem Value).run P w=.ok q w∧R x r q:=by
 unfold abin at h
 split at h
 ·rename_i k a k' b
  simp only [R] at ha hb; subst ha hb
  have hg : (eqGuard op t o p (.int k a) (.int k' b)).run P w=.ok () w:=by unfold eqGuard; cases op<;>simp
  simp only [Sem.run_bind,hg,Result.andThen_ok]
  split at h
  ·exact ashift_sound h P t w
  ·exact ashift_sound h P t w
  ·split at h
   ·rename_i hk
    subst hk
    exact aarith_sound h P t w
   ·cases h
 ·rename_i a b
  simp only [R] at ha hb; subst ha hb
  have hg : (eqGuard op t o p (.string ⟨a.toArray⟩) (.string ⟨b.toArray⟩)).run P w=.ok () w:=by unfold eqGuard; cases op<;>simp
  simp only [Sem.run_bind,hg,Result.andThen_ok]
  exact astr_sound h P t w
 ·rename_i h1 h2
  have key : ∀ r',aeq T 10000 t a b=some r'→(Op.equal t u v).run P w=.ok r' w:=fun r' hr=>aeq_sound hT 10000 t a b u v r' w ha hb hr
  have hne : ∀ r',aeq T 10000 t a b=some r'→Go.binOp .eql t u v=(do pure (.bool (← Op.equal t u v)))∧Go.binOp .neq t u v=(do pure (.bool (!(← Op.equal t u v)))):=by
   intro r' hr
   unfold aeq at hr
   split at hr
   all_goals first
    | (cases hr; done)
    | exact (h1 _ _ _ _ rfl rfl).elim
    | exact (h2 _ _ rfl rfl).elim
    | (simp only [R] at ha hb
       first
        | (subst ha hb; exact ⟨rfl,rfl⟩)
        | (subst ha; obtain ⟨_,_,rfl⟩:=hb; exact ⟨rfl,rfl⟩)
        | (subst hb; obtain ⟨_,_,rfl⟩:=ha; exact ⟨rfl,rfl⟩)
        | (subst hb; obtain ⟨_,_,rfl,_⟩:=ha; exact ⟨rfl,rfl⟩)
        | (rcases hb with ⟨⟨p,hpn,rfl⟩,_⟩|⟨_,_,_,_,_,rfl,_⟩<;>rcases ha with ⟨⟨p,hpn,rfl⟩,_⟩|⟨_,_,_,_,_,rfl,_⟩<;>exact ⟨rfl,rfl⟩)
        | (rcases hb with ⟨⟨p,hpn,rfl⟩,_⟩|⟨_,_,_,_,_,rfl,_⟩<;>rcases ha with ⟨_,⟨⟨p,hpn,rfl⟩,_⟩|⟨_,_,_,_,_,rfl,_⟩⟩<;>exact ⟨rfl,rfl⟩)
        | (rcases hb with ⟨⟨p,hpn,rfl⟩,_⟩|⟨_,_,_,_,_,rfl,_⟩<;>rcases ha with ⟨_,⟨_,rfl,_⟩|⟨_,_,_,_,rfl,_⟩⟩<;>exact ⟨rfl,rfl⟩)
        | (obtain ⟨_,_,rfl,_⟩:=ha; obtain ⟨_,_,rfl,_⟩:=hb; exact ⟨rfl,rfl⟩))
  split at h
  ·simp only [Option.map_eq_some_iff] at h
   obtain ⟨r',h3,rfl⟩:=h
   refine ⟨.bool r',?_,rfl⟩
   rw [(hne r' h3).1]
   simp [aeq_guard hT ha hb h3,key r' h3]
  ·simp only [Option.map_eq_some_iff] at h
   obtain ⟨r',h3,rfl⟩:=h
   refine ⟨.bool (!r'),?_,rfl⟩
   rw [(hne r' h3).2]
   simp [aeq_guard hT ha hb h3,key r' h3]
  ·cases h
end
end Go.Abs
namespace Go.Abs
def Out (x : Cx) (H H' : AH) (v : AV) (r : Result Next) : Prop :=
 ∃ u y,(r=.ok (.value u) y.w∨(r=.ok .skip y.w∧u=undef))∧Mv x.N x H y H'∧Rel y H'∧Keeps x y∧R y v u
theorem Out.pure {x : Cx} {H : AH} {v : AV} {u : Value} {r : Result Next} (hr : Rel x H) (hv : R x v u) (h : r=.ok (.value u) x.w) : Out x H H v r :=
 ⟨u,x,.inl h,Mv.refl H (Nat.le_refl _),hr,Keeps.refl x,hv⟩
theorem Holds.cell {x : Cx} {b o : Nat} {cs : List AV} (h : Holds x b o cs) : ∃ vs,RL x cs vs∧(∀ a∈cs,a.isCell=true)∧∀ i u,vs[i]?=some u→x.w.cell? ⟨b,o+i,none⟩=some u:=by
 obtain ⟨c,t,fz,vs,h1,h2,h3,h4,h5,h6⟩:=h
 exact ⟨vs,h3,h6,fun i u hu=>by rw [cell_of_row _ _ _ _ _ _ h1]; exact h5 i u hu⟩
theorem run_value {P : Program} {s : Sem Value} {w w' : World} {u : Value} (h : s.run P w=.ok u w') : (do pure (Next.value (← s)) : Sem Next).run P w=.ok (.value u) w':=by
 simp [h]
section
variable {P : Program} {T : TT} (hT : TyOk P T)
include hT
theorem loadVar_sound {x : Cx} {t : TypeId} {cs : List AV} {vs : List Value} {b o off : Nat} {v : AV} (hl : RL x cs vs) (hc : ∀ a∈cs,a.isCell=true) (hcell : ∀ i u,vs[i]?=some u→x.w.cell? ⟨b,o+i,none⟩=some u)
  (h : apart T t cs off=some v) : ∃ u,(loadVar t ⟨b,o+off,none⟩).run P x.w=.ok u x.w∧R x v u:=by
 unfold apart at h
 split at h
 ·rename_i hk
  have h1:=TyOk.isAgg hT hk x.w
  have h2:=TyOk.size hT hk x.w
  split at h
  ·rename_i ha
   split at h
   ·rename_i hb
    cases h
    refine ⟨.agg ((vs.drop off).take (T t).size).toArray,?_,?_⟩
    ·have hlen : ((vs.drop off).take (T t).size).length=(T t).size:=by
      have:=hl.length
      simp
      omega
     have h3:=run_loadCells_list (P:=P) x.w ⟨b,o+off,none⟩ ((vs.drop off).take (T t).size) (fun j u hu=>by
      rw [List.getElem?_take] at hu
      split at hu
      ·rw [List.getElem?_drop] at hu
       rw [Addr.add_lit,Nat.add_assoc]
       exact hcell _ _ hu
      ·cases hu)
     rw [hlen] at h3
     unfold loadVar
     simp [h1,ha,h2,h3]
    ·simp only [R]
     exact ⟨fun a ha=>hc a (List.mem_of_mem_drop (List.mem_of_mem_take ha)),_,rfl,(hl.drop off).take _⟩
   ·cases h
  ·rename_i ha
   obtain ⟨u,hu,hr⟩:=hl.get h
   refine ⟨u,?_,hr⟩
   unfold loadVar
   simp [h1,ha,hcell _ _ hu]
 ·cases h
theorem aload_sound {x : Cx} {H : AH} (hr : Rel x H) {t : TypeId} {p v : AV} {u : Value} (hp : R x p u) (h : aload T H t p=some v) : ∃ q,(Instr.loadAt t u).run P x.w=.ok q x.w∧R x v q:=by
 unfold aload at h
 split at h
 ·rename_i l off
  split at h
  ·rename_i cs hl
   obtain ⟨vs,h1,h2,h3⟩:=Holds.cell (hr.block l _ hl).2
   simp only [R] at hp
   obtain ⟨_,_,rfl⟩:=hp
   obtain ⟨q,h4,h5⟩:=loadVar_sound hT h1 h2 h3 h
   exact ⟨q,by simpa [Instr.loadAt,Instr.sureAddr] using h4,h5⟩
  ·cases h
 ·rename_i cs off
  simp only [R] at hp
  obtain ⟨b,o,vs,rfl,hf,h1,h2,h3⟩:=hp
  obtain ⟨q,h4,h5⟩:=loadVar_sound hT h1 h2 h3 h
  exact ⟨q,by simpa [Instr.loadAt,Instr.sureAddr] using h4,h5⟩
 ·cases h
theorem fieldPlace_sound {t : TypeId} (hk : (T t).d.known=true) (f : Field) (hf : f.type=t) (hs : (T t).size≠0) (b o : Nat) (w : World) : (fieldPlace ⟨b,o,none⟩ f).run P w=.ok ⟨b,o+f.offset,none⟩ w:=by
 subst hf
 unfold fieldPlace
 simp [TyOk.size hT hk w,hs,Addr.add_lit]
theorem fieldAddr_sound {x : Cx} {s : TypeId} {f : Nat} {fs : List (Bool×Nat×TypeId)} {g : Bool×Nat×TypeId} (hd : (T s).d=.struct fs) (hg : fs[f]?=some g) (hz : (T g.2.2).size≠0) (b o : Nat) :
  (Instr.fieldAt s (.pointer (some ⟨b,o,none⟩)) f).run P x.w=.ok (.pointer (some ⟨b,o+g.2.1,none⟩)) x.w:=by
 have hu:=TyOk.desc hT hd rfl
 simp only [DescOk] at hu
 obtain ⟨fields,hu,rfl⟩:=hu
 rw [List.getElem?_map,Option.map_eq_some_iff] at hg
 obtain ⟨fd,h1,rfl⟩:=hg
 rw [Array.getElem?_toList] at h1
 have hk:=hT.sub s (by rw [hd]; rfl) fd.type (by
  rw [hd]
  simp only [AD.subs,List.map_map,List.mem_map,Function.comp]
  exact ⟨fd,by rw [← Array.getElem?_toList] at h1; exact List.mem_of_getElem? h1,rfl⟩)
 have:=fieldPlace_sound hT hk fd rfl hz b o x.w
 simp [Instr.fieldAt,run_underlying hu,h1,Instr.sureAddr,this]
theorem field_sound {x : Cx} {t : TypeId} {f : Nat} {fs : List (Bool×Nat×TypeId)} {g : Bool×Nat×TypeId} (hd : (T t).d=.struct fs) (hg : fs[f]?=some g) {cs : List AV} {u : Value} {v : AV} (hp : R x (.agg cs) u) (h : apart T g.2.2 cs g.2.1=some v) :
  ∃ q,(Instr.field t u f).run P x.w=.ok q x.w∧R x v q:=by
 have hu:=TyOk.desc hT hd rfl
 simp only [DescOk] at hu
 obtain ⟨fields,hu,rfl⟩:=hu
 rw [List.getElem?_map,Option.map_eq_some_iff] at hg
 obtain ⟨fd,h1,rfl⟩:=hg
 rw [Array.getElem?_toList] at h1
 simp only [R] at hp
 obtain ⟨hc,vs,rfl,hl⟩:=hp
 obtain ⟨q,h2,h3⟩:=part_sound hT hl hc h x.w
 exact ⟨q,by simp [Instr.field,run_underlying hu,h1,asAgg,h2],h3⟩
theorem indexAddr_sound {x : Cx} {t : TypeId} {a i v : AV} {u k : Value} (ha : R x a u) (hi : R x i k) (h : aindexAddr T t a i=some v) : ∃ q,(Instr.indexAt t u k).run P x.w=.ok q x.w∧R x v q:=by
 unfold aindexAddr at h
 split at h
 ·rename_i kk i
  simp only [R] at hi
  subst hi
  split at h
  ·rename_i e ex nl l off len sz hd
   split at h
   ·rename_i hc
    obtain ⟨hs,h0,h1⟩:=hc
    cases h
    have hu:=TyOk.desc hT hd rfl
    simp only [DescOk] at hu
    have hk:=hT.sub t (by rw [hd]; rfl) e (by rw [hd]; simp [AD.subs])
    simp only [R] at ha
    obtain ⟨⟨hl,hv0⟩,⟨_,_,rfl⟩|⟨_,cap,S,o,rfl,ho,hle,_⟩⟩:=ha
    ·omega
    have ho:=ho (by omega)
    subst ho
    refine ⟨.pointer (some ⟨(x.at_ l).1,(x.at_ l).2+(off+i.toNat * sz),none⟩),?_,?_⟩
    ·simp [Instr.indexAt,asIntOf,run_underlying hu,TyOk.size hT hk,h0,h1,Addr.add_lit,hs,Nat.add_assoc]
    ·simpa [R] using ⟨hl,hv0⟩
   ·cases h
  ·rename_i e nl ex cs len hd
   split at h
   ·rename_i hc
    obtain ⟨h0,h1,h2,h3⟩:=hc
    cases h
    have hu:=TyOk.desc hT hd rfl
    simp only [DescOk] at hu
    have hk:=hT.sub t (by rw [hd]; rfl) e (by rw [hd]; simp [AD.subs])
    simp only [R] at ha
    rcases ha with ⟨_,rfl,rfl⟩|⟨_,b,o,cap,vs,rfl,hle,hmx,hex,hl,hcl,hf,hcell⟩
    ·omega
    ·have hf' : x.Fz b (o+cs.length):=by
      rcases hf with rfl|hf
      ·have : 0 < len * (T e).size:=Nat.mul_pos (by omega) h3
       simp at h2
       omega
      ·exact hf
     refine ⟨.pointer (some ⟨b,o+i.toNat * (T e).size,none⟩),?_,?_⟩
     ·simp [Instr.indexAt,asIntOf,run_underlying hu,TyOk.size hT hk,h0,h1,Addr.add_lit]
     ·simp only [R]
      exact ⟨b,o,vs,rfl,hf',hl,hcl,hcell⟩
   ·cases h
  ·rename_i e l0 ver nl cs len sz0 hd
   split at h
   ·rename_i hc
    obtain ⟨h0,h1,h2,h3⟩:=hc
    cases h
    have hu:=TyOk.desc hT hd rfl
    simp only [DescOk] at hu
    have hk:=hT.sub t (by rw [hd]; rfl) e (by rw [hd]; simp [AD.subs])
    have ha:=ha.weak
    simp only [AV.weak,R] at ha
    rcases ha with ⟨_,rfl,rfl⟩|⟨_,b,o,cap,vs,rfl,hle,hmx,hex,hl,hcl,hf,hcell⟩
    ·omega
    ·have hf' : x.Fz b (o+cs.length):=by
      rcases hf with rfl|hf
      ·have : 0 < len * (T e).size:=Nat.mul_pos (by omega) h3
       simp at h2
       omega
      ·exact hf
     refine ⟨.pointer (some ⟨b,o+i.toNat * (T e).size,none⟩),?_,?_⟩
     ·simp [Instr.indexAt,asIntOf,run_underlying hu,TyOk.size hT hk,h0,h1,Addr.add_lit]
     ·simp only [R]
      exact ⟨b,o,vs,rfl,hf',hl,hcl,hcell⟩
   ·cases h
  ·rename_i n e l off hd
   split at h
   ·rename_i hc
    obtain ⟨h0,h1⟩:=hc
    cases h
    have hu:=TyOk.desc hT hd rfl
    simp only [DescOk] at hu
    have hk:=hT.sub t (by rw [hd]; rfl) e (by rw [hd]; simp [AD.subs])
    simp only [R] at ha
    obtain ⟨hl,hv0,rfl⟩:=ha
    refine ⟨.pointer (some ⟨(x.at_ l).1,(x.at_ l).2+(off+i.toNat * (T e).size),none⟩),?_,?_⟩
    ·simp [Instr.indexAt,Instr.sureAddr,asIntOf,run_underlying hu,TyOk.size hT hk,h0,h1,Addr.add_lit,Nat.add_assoc]
    ·simpa [R] using ⟨hl,hv0⟩
   ·cases h
  ·rename_i n e cs off hd
   split at h
   ·rename_i hc
    obtain ⟨h0,h1⟩:=hc
    cases h
    have hu:=TyOk.desc hT hd rfl
    simp only [DescOk] at hu
    have hk:=hT.sub t (by rw [hd]; rfl) e (by rw [hd]; simp [AD.subs])
    simp only [R] at ha
    obtain ⟨b,o,vs,rfl,hf,h3,h4,h5⟩:=ha
    refine ⟨.pointer (some ⟨b,o+(off+i.toNat * (T e).size),none⟩),?_,?_⟩
    ·simp [Instr.indexAt,Instr.sureAddr,asIntOf,run_underlying hu,TyOk.size hT hk,h0,h1,Addr.add_lit,Nat.add_assoc]
    ·simp only [R]
     exact ⟨b,o,vs,rfl,hf,h3,h4,h5⟩
   ·cases h
  ·cases h
 ·cases h
theorem index_sound {x : Cx} {t : TypeId} {a i v : AV} {u k : Value} (ha : R x a u) (hi : R x i k) (h : aindex T t a i=some v) : ∃ q,(Instr.index t u k).run P x.w=.ok q x.w∧R x v q:=by
 unfold aindex at h
 split at h
 ·rename_i kk i
  simp only [R] at hi
  subst hi
  split at h
  ·rename_i s hd
   split at h
   ·rename_i h0
    simp only [Option.map_eq_some_iff] at h
    obtain ⟨b,hb,rfl⟩:=h
    have hu:=TyOk.desc hT hd rfl
    simp only [DescOk] at hu
    simp only [R] at ha
    subst ha
    obtain ⟨hlt,hb'⟩:=List.getElem?_eq_some_iff.1 hb
    refine ⟨.int .u8 b.toNat,?_,rfl⟩
    have hbs : (⟨s.toArray⟩ : ByteArray)[i.toNat]?=some b:=by
     have hlt' : i.toNat < ByteArray.size ⟨s.toArray⟩:=by simpa [ByteArray.size] using hlt
     rw [getElem?_pos (⟨s.toArray⟩ : ByteArray) i.toNat hlt']
     exact congrArg some hb'
    simp [Instr.index,asIntOf,run_underlying hu,h0,hbs]
   ·cases h
  ·rename_i n e cs hd
   split at h
   ·rename_i hc
    obtain ⟨h0,h1⟩:=hc
    have hu:=TyOk.desc hT hd rfl
    simp only [DescOk] at hu
    have hk:=hT.sub t (by rw [hd]; rfl) e (by rw [hd]; simp [AD.subs])
    simp only [R] at ha
    obtain ⟨hcl,vs,rfl,hl⟩:=ha
    obtain ⟨q,h2,h3⟩:=part_sound hT hl hcl h x.w
    exact ⟨q,by simp [Instr.index,asIntOf,run_underlying hu,TyOk.size hT hk,h0,h1,h2],h3⟩
   ·cases h
  ·cases h
 ·cases h
end
end Go.Abs
namespace Go.Abs
theorem extract_bytes (s : List UInt8) (l h : Nat) : (⟨s.toArray⟩ : ByteArray).extract l h=⟨((s.take h).drop l).toArray⟩:=by
 apply ByteArray.ext
 rw [ByteArray.data_extract]
 apply Array.ext'
 simp [List.drop_take]
end Go.Abs
namespace Go.Abs
theorem bound_sound {P : Program} {w : World} {k : IntKind} {n : Int} {y l : Nat} (h0 : 0≤n) (hl : n.toNat=l) (hy : l≤y) (c : BoundsCode) : (Instr.sliceBound (.int k n) y c).run P w=.ok l w:=by
 unfold Instr.sliceBound
 have h1 : n≤(y : Int):=by omega
 simp [asIntOf,h0,h1,hl]
theorem numOf_sound {x : Cx} {v : AV} {u : Value} {l : Nat} (hr : R x v u) (h : numOf v=some l) : ∃ k n,u=.int k n∧0≤n∧n.toNat=l:=by
 unfold numOf at h
 split at h
 ·rename_i k n
  split at h
  ·rename_i h0
   cases h
   simp only [R] at hr
   exact ⟨k,n,hr,h0,rfl⟩
  ·cases h
 ·cases h
def RO (x : Cx) : Option AV→Option Value→Prop
 | some a,some v=>R x a v
 | none,none=>True
 | _,_=>False
theorem bounds_sound {P : Program} {x : Cx} {isSlice : Bool} {len cap : Nat} {lo hi mx : Option AV} {lo' hi' mx' : Option Value} (h1 : RO x lo lo') (h2 : RO x hi hi') (h3 : RO x mx mx')
  {l h m : Nat} (hl : boundOf lo 0=some l) (hh : boundOf hi len=some h) (hm : boundOf mx cap=some m)
  (hlh : l≤h) (hhm : h≤m) (hmc : m≤cap) (hfull : mx.isSome=true→hi.isSome=true) (w : World) : (Instr.sliceBounds isSlice len cap lo' hi' mx').run P w=.ok (l,h,m) w:=by
 unfold Instr.sliceBounds
 cases mx with
 | some mv =>
   cases mx' with
   | none=>exact h3.elim
   | some mu =>
     obtain ⟨k3,n3,rfl,a3,b3⟩:=numOf_sound h3 hm
     cases hi with
     | none=>simp at hfull
     | some hv =>
       cases hi' with
       | none=>exact h2.elim
       | some hu =>
         obtain ⟨k2,n2,rfl,a2,b2⟩:=numOf_sound h2 hh
         cases lo with
         | none =>
           cases lo' with
           | some _=>exact h1.elim
           | none =>
             cases hl
             simp [bound_sound a3 b3 hmc,bound_sound a2 b2 hhm]
         | some lv =>
           cases lo' with
           | none=>exact h1.elim
           | some lu =>
             obtain ⟨k1,n1,rfl,a1,b1⟩:=numOf_sound h1 hl
             simp [bound_sound a3 b3 hmc,bound_sound a2 b2 hhm,bound_sound a1 b1 hlh]
 | none =>
   cases mx' with
   | some _=>exact h3.elim
   | none =>
     cases hm
     cases hi with
     | none =>
       cases hi' with
       | some _=>exact h2.elim
       | none =>
         cases hh
         cases lo with
         | none =>
           cases lo' with
           | some _=>exact h1.elim
           | none =>
             cases hl
             simp
         | some lv =>
           cases lo' with
           | none=>exact h1.elim
           | some lu =>
             obtain ⟨k1,n1,rfl,a1,b1⟩:=numOf_sound h1 hl
             simp [bound_sound a1 b1 hlh]
     | some hv =>
       cases hi' with
       | none=>exact h2.elim
       | some hu =>
         obtain ⟨k2,n2,rfl,a2,b2⟩:=numOf_sound h2 hh
         cases lo with
         | none =>
           cases lo' with
           | some _=>exact h1.elim
           | none =>
             cases hl
             simp [bound_sound a2 b2 hhm]
         | some lv =>
           cases lo' with
           | none=>exact h1.elim
           | some lu =>
             obtain ⟨k1,n1,rfl,a1,b1⟩:=numOf_sound h1 hl
             simp [bound_sound a2 b2 hhm,bound_sound a1 b1 hlh]
section
variable {P : Program} {T : TT} (hT : TyOk P T)
include hT
theorem lit_part {x : Cx} {nl ex : Bool} {cs : List AV} {len : Nat} {u : Value} (ha : R x (.lit nl ex cs len) u) {t e : TypeId} (hd : (T t).d=.slice e) {lo hi mx : Option Value} {l h m : Nat} (hlh : l≤h) (hhm : h≤m) (hhl : h≤len) (hcs : h * (T e).size≤cs.length)
  (hb : ∀ cap,len≤cap→(ex=true→cap=len)→m≤cap→(Instr.sliceBounds true len cap lo hi mx).run P x.w=.ok (l,h,if mx.isSome then m else cap) x.w) (hm : m≤len) :
  ∃ q,(Instr.sliceAt t u lo hi mx).run P x.w=.ok q x.w∧R x (.lit nl (if mx.isSome then m==h else ex&&h==len) ((cs.take (h * (T e).size)).drop (l * (T e).size)) (h - l)) q:=by
 have hu:=TyOk.desc hT hd rfl
 simp only [DescOk] at hu
 have hk:=hT.sub t (by rw [hd]; rfl) e (by rw [hd]; simp [AD.subs])
 simp only [R] at ha
 rcases ha with ⟨⟨p,rfl,rfl⟩,rfl,rfl⟩|⟨rfl,b,o,cap,vs,rfl,hle,hmx,hex,hl,hcl,hf,hcell⟩
 ·have h0 : h=0:=by omega
  have l0 : l=0:=by omega
  subst h0 l0
  have:=hb 0 (Nat.le_refl _) (fun _=>rfl) (by omega)
  refine ⟨.slice p 0 0,?_,?_⟩
  ·have hm0 : (if mx.isSome=true then m else 0)=0:=by split<;>omega
   cases p<;>simp [Instr.sliceAt,Instr.slice,run_underlying hu,this,TyOk.size hT hk,hm0]
  ·simp only [R]
   exact .inl ⟨⟨p,rfl,rfl⟩,by simp,by simp⟩
 ·have hb':=hb cap hle hex (by omega)
  generalize hM : (if mx.isSome=true then m else cap)=M at hb'
  have hMh : h≤M:=by rw [← hM]; split<;>omega
  refine ⟨.slice (some ⟨b,if M=l then o else o+l * (T e).size,none⟩) (h - l) (M - l),?_,?_⟩
  ·simp only [Instr.sliceAt,Instr.slice,Sem.run_bind,run_underlying hu,Result.andThen_ok,hb',TyOk.size hT hk,Sem.run_pure]
   congr 2
   by_cases e1 : M=l<;>simp [e1,Addr.add_lit]
  ·simp only [R]
   refine .inr ⟨trivial,b,_,_,(vs.take (h * (T e).size)).drop (l * (T e).size),rfl,by omega,by rw [← hM] at hMh ⊢; split<;>omega,fun he=>?_,(hl.take _).drop _,fun a ha=>hcl a (List.mem_of_mem_take (List.mem_of_mem_drop ha)),?_,fun i u hu=>?_⟩
   ·rw [← hM]
    by_cases hq : mx.isSome=true
    ·simp only [hq,if_true] at he ⊢
     have : m=h:=by simpa using he
     omega
    ·simp only [hq,if_false,Bool.false_eq_true] at he ⊢
     simp only [Bool.and_eq_true,beq_iff_eq] at he
     have:=hex he.1
     omega
   ·rcases hf with rfl|hf
    ·left; simp
    ·rcases Nat.lt_or_ge (l * (T e).size) (h * (T e).size) with hlt|hge
     ·have hne : M≠l:=by
       intro e1
       have : h=l:=by omega
       subst this
       omega
      rw [if_neg hne]
      refine .inr (hf.le ?_)
      simp
      omega
     ·left
      simp
      omega
   ·rw [List.getElem?_drop,List.getElem?_take] at hu
    split at hu
    ·rename_i hlt
     have hlt' : l * (T e).size < h * (T e).size:=by omega
     have hne : M≠l:=by
      intro e1
      have : h=l:=by omega
      subst this
      omega
     rw [if_neg hne,Nat.add_assoc]
     exact hcell _ _ hu
    ·cases hu
theorem ref_part {x : Cx} {ex nl : Bool} {bl off len sz : Nat} {u : Value} (ha : R x (.ref ex nl bl off len sz) u) {t e : TypeId} (hd : (T t).d=.slice e) (hs : (T e).size=sz) {lo hi mx : Option Value} {l h m : Nat} (hlh : l≤h) (hhm : h≤m) (hhl : h≤len)
  (hb : ∀ cap,len≤cap→(ex=true→cap=len)→m≤cap→(Instr.sliceBounds true len cap lo hi mx).run P x.w=.ok (l,h,if mx.isSome then m else cap) x.w) (hm : m≤len) :
  ∃ q,(Instr.sliceAt t u lo hi mx).run P x.w=.ok q x.w∧R x (.ref (if mx.isSome then m==h else ex&&h==len) nl bl (off+l * sz) (h - l) sz) q:=by
 have hu:=TyOk.desc hT hd rfl
 simp only [DescOk] at hu
 have hk:=hT.sub t (by rw [hd]; rfl) e (by rw [hd]; simp [AD.subs])
 simp only [R] at ha
 obtain ⟨⟨hN,hv0⟩,⟨rfl,rfl,rfl⟩|⟨rfl,cap,S,o,rfl,ho,hle,hmx,hex,hS,hSc⟩⟩:=ha
 ·have hb':=hb 0 (Nat.le_refl _) (fun _=>rfl) (by omega)
  have e1 : l=0:=by omega
  have e2 : h=0:=by omega
  have e3 : m=0:=by omega
  subst e1 e2 e3
  refine ⟨.slice none 0 0,?_,?_⟩
  ·have hb'' : (Instr.sliceBounds true 0 0 lo hi mx).run P x.w=.ok (0,0,0) x.w:=by rw [hb']; split<;>rfl
   simp only [Instr.sliceAt,Instr.slice,Sem.run_bind,run_underlying hu,Result.andThen_ok,hb'',TyOk.size hT hk,Sem.run_pure,hs]
   rfl
  ·simp only [R]
   exact ⟨⟨hN,hv0⟩,.inl ⟨trivial,trivial,by simp⟩⟩
 have hb':=hb cap hle hex (by omega)
 generalize hM : (if mx.isSome=true then m else cap)=M at hb'
 have hMh : h≤M:=by rw [← hM]; split<;>omega
 have hMc : M≤cap:=by rw [← hM]; split<;>omega
 refine ⟨.slice (some ⟨(x.at_ bl).1,if M=l then o else o+l * sz,none⟩) (h - l) (M - l),?_,?_⟩
 ·simp only [Instr.sliceAt,Instr.slice,Sem.run_bind,run_underlying hu,Result.andThen_ok,hb',TyOk.size hT hk,Sem.run_pure,hs]
  congr 2
  by_cases e1 : M=l<;>simp [e1,Addr.add_lit]
 ·simp only [R]
  refine ⟨⟨hN,hv0⟩,.inr ⟨trivial,M - l,S,_,rfl,fun hp=>?_,by omega,by omega,fun he=>?_,hS,?_⟩⟩
  ·rw [if_neg (by omega),ho (by omega)]
   omega
  ·rw [← hM]
   by_cases hq : mx.isSome=true
   ·simp only [hq,if_true] at he ⊢
    have : m=h:=by simpa using he
    omega
   ·simp only [hq,if_false,Bool.false_eq_true] at he ⊢
    simp only [Bool.and_eq_true,beq_iff_eq] at he
    have:=hex he.1
    omega
  ·have h1 : l * sz+(M - l) * sz≤cap * sz:=by
    rw [← Nat.add_mul]
    exact Nat.mul_le_mul_right _ (by omega)
   omega
end
section
variable {P : Program} {T : TT} (hT : TyOk P T)
include hT
theorem aslice_sound {x : Cx} {H : AH} (hr : Rel x H) {t : TypeId} {a v : AV} {u : Value} {lo hi mx : Option AV} {lo' hi' mx' : Option Value} (ha : R x a u) (h1 : RO x lo lo') (h2 : RO x hi hi') (h3 : RO x mx mx') (h : aslice T H t a lo hi mx=some v) :
  ∃ q,(Instr.sliceAt t u lo' hi' mx').run P x.w=.ok q x.w∧R x v q:=by
 have hso : mx'.isSome=mx.isSome:=by cases mx<;>cases mx'<;>first|rfl|exact h3.elim
 unfold aslice at h
 split at h
 ·rename_i s hd
  split at h
  ·rename_i l h' hl hh
   split at h
   ·rename_i hc
    cases h
    have hu:=TyOk.desc hT hd rfl
    simp only [DescOk] at hu
    simp only [R] at ha
    subst ha
    cases mx' with
    | some _=>exact h3.elim
    | none =>
      have hsz : ByteArray.size ⟨s.toArray⟩=s.length:=by simp [ByteArray.size]
      have hb:=bounds_sound (P:=P) (x:=x) (isSlice:=false) (len:=s.length) (cap:=s.length) h1 h2 h3 hl hh (show boundOf none s.length=some s.length from rfl) hc.1 hc.2 (Nat.le_refl _) (by simp) x.w
      refine ⟨.string ⟨((s.take h').drop l).toArray⟩,?_,rfl⟩
      simp [Instr.sliceAt,Instr.slice,run_underlying hu,hsz,hb,extract_bytes]
   ·cases h
  ·cases h
 ·rename_i e nl ex cs len hd
  split at h
  ·rename_i l h' m hl hh hm
   split at h
   ·rename_i hc
    cases h
    obtain ⟨c1,c2,c3,c4,c5⟩:=hc
    have:=lit_part hT ha hd (lo:=lo') (hi:=hi') (mx:=mx') c1 c2 (by omega) c4 (fun cap hcap hex hmc=>?_) c3
    ·rw [hso] at this; exact this
    ·cases mx with
     | some mv =>
       rw [hso]
       exact bounds_sound h1 h2 h3 hl hh (by simpa [boundOf] using hm) c1 c2 hmc c5 x.w
     | none =>
       rw [hso]
       simp only [boundOf,Option.some.injEq] at hm
       subst hm
       exact bounds_sound h1 h2 h3 hl hh (show boundOf none cap=some cap from rfl) c1 (by omega) (Nat.le_refl _) (by simp) x.w
   ·cases h
  ·cases h
 ·rename_i e l0 ver nl cs len sz0 hd
  split at h
  ·rename_i l h' m hl hh hm
   split at h
   ·rename_i hc
    cases h
    obtain ⟨c1,c2,c3,c4,c5⟩:=hc
    have:=lit_part hT ha.weak hd (lo:=lo') (hi:=hi') (mx:=mx') c1 c2 (by omega) c4 (fun cap hcap hex hmc=>?_) c3
    ·rw [hso] at this; exact this
    ·cases mx with
     | some mv =>
       rw [hso]
       exact bounds_sound h1 h2 h3 hl hh (by simpa [boundOf] using hm) c1 c2 hmc c5 x.w
     | none =>
       rw [hso]
       simp only [boundOf,Option.some.injEq] at hm
       subst hm
       exact bounds_sound h1 h2 h3 hl hh (show boundOf none cap=some cap from rfl) c1 (by omega) (Nat.le_refl _) (by simp) x.w
   ·cases h
  ·cases h
 ·rename_i e ex nl b off len sz hd
  split at h
  ·rename_i l h' m hl hh hm
   split at h
   ·rename_i hc
    cases h
    obtain ⟨c1,c2,c3,c4,c5⟩:=hc
    have:=ref_part hT ha hd c4 (lo:=lo') (hi:=hi') (mx:=mx') c1 c2 (by omega) (fun cap hcap hex hmc=>?_) c3
    ·rw [hso] at this; exact this
    ·cases mx with
     | some mv =>
       rw [hso]
       exact bounds_sound h1 h2 h3 hl hh (by simpa [boundOf] using hm) c1 c2 hmc c5 x.w
     | none =>
       rw [hso]
       simp only [boundOf,Option.some.injEq] at hm
       subst hm
       exact bounds_sound h1 h2 h3 hl hh (show boundOf none cap=some cap from rfl) c1 (by omega) (Nat.le_refl _) (by simp) x.w
   ·cases h
  ·cases h
 ·rename_i n e b off hd
  split at h
  ·rename_i cs l h' hb' hl hh
   split at h
   ·rename_i hc
    cases h
    obtain ⟨c1,c2,c3,c4⟩:=hc
    have hu:=TyOk.desc hT hd rfl
    simp only [DescOk] at hu
    have hk:=hT.sub t (by rw [hd]; rfl) e (by rw [hd]; simp [AD.subs])
    simp only [R] at ha
    obtain ⟨hN,hv0,rfl⟩:=ha
    cases mx' with
    | some _=>exact h3.elim
    | none =>
      have hb:=bounds_sound (P:=P) (x:=x) (isSlice:=false) (len:=n) (cap:=n) h1 h2 h3 hl hh (show boundOf none n=some n from rfl) c3 c4 (Nat.le_refl _) (by simp) x.w
      obtain ⟨_,c,ty,fz,vs,hc1,hc2,hc3,hc4,hc5,hc6⟩:=hr.block b _ hb'
      refine ⟨.slice (some ⟨(x.at_ b).1,if n=l then (x.at_ b).2+off else (x.at_ b).2+off+l * (T e).size,none⟩) (h' - l) (n - l),?_,?_⟩
      ·simp only [Instr.sliceAt,Sem.run_bind,run_underlying hu,Result.andThen_ok,Instr.sureAddr,Sem.run_pure,hb,TyOk.size hT hk]
       congr 2
       by_cases e1 : n=l<;>simp [e1,Addr.add_lit]
      ·simp only [R]
       refine ⟨⟨hN,hv0⟩,.inr ⟨trivial,n - l,c.size,_,rfl,fun hp=>?_,by omega,by omega,fun he=>?_,bsz_of hc1,?_⟩⟩
       ·rw [if_neg (by omega)]; omega
       ·have : h'=n:=by simpa using he
        omega
       ·have h5 : l * (T e).size+(n - l) * (T e).size≤n * (T e).size:=by
         rw [← Nat.add_mul]
         exact Nat.mul_le_mul_right _ (by omega)
        omega
   ·cases h
  ·cases h
 ·cases h
end
theorem alen_sound {P : Program} {x : Cx} {a : AV} {u : Value} {n : Nat} (ha : R x a u) (h : alen a=some n) (w : World) : (Builtin.lenOf u).run P w=.ok n w:=by
 unfold alen at h
 split at h
 ·cases h
  simp only [R] at ha
  rcases ha with ⟨⟨p,hpn,rfl⟩,_,rfl⟩|⟨_,b,o,cap,vs,rfl,_⟩<;>simp [Builtin.lenOf]
 ·cases h
  have ha:=ha.weak
  simp only [AV.weak,R] at ha
  rcases ha with ⟨⟨p,hpn,rfl⟩,_,rfl⟩|⟨_,b,o,cap,vs,rfl,_⟩<;>simp [Builtin.lenOf]
 ·cases h
  simp only [R] at ha
  rcases ha with ⟨_,⟨_,rfl,rfl⟩|⟨_,cap,S,o,rfl,_⟩⟩<;>simp [Builtin.lenOf]
 ·cases h
  simp only [R] at ha
  subst ha
  simp [Builtin.lenOf,ByteArray.size]
 ·cases h
theorem acells_sound {P : Program} {x : Cx} {H : AH} (hr : Rel x H) {a : AV} {u : Value} {n sz : Nat} {cs : List AV} (ha : R x a u) (h : acells H (n * sz) a=some cs) (hstr : ∀ s,a=.str s→sz=1) (hn : ∀ len,alen a=some len→n≤len) :
  ∃ vs,RL x cs vs∧(∀ c∈cs,c.isCell=true)∧vs.length=n * sz∧∀ w : World,w.heap=x.w.heap→(Builtin.firstCells sz n u).run P w=.ok vs.toArray w:=by
 unfold acells at h
 split at h
 ·rename_i nl ex cs' len
  split at h
  ·rename_i hn'
   cases h
   simp only [R] at ha
   rcases ha with ⟨⟨p,rfl,rfl⟩,rfl,rfl⟩|⟨rfl,b,o,cap,vs,rfl,hle,hmx,hex,hl,hcl,hf,hcell⟩
   ·have h0 : n * sz=0:=by simpa using hn'
    refine ⟨[],by simp [RL],by simp,by simp [h0],fun w hw=>?_⟩
    cases p with
    | none=>simp [Builtin.firstCells]
    | some a=>exact run_firstCells_some w sz n a _ _ _ (by simp [h0]) (fun j v hj=>by simp at hj)
   ·have hlen : (vs.take (n * sz)).length=n * sz:=by have:=hl.length; simp; omega
    refine ⟨vs.take (n * sz),hl.take _,fun a ha=>hcl a (List.mem_of_mem_take ha),hlen,fun w hw=>?_⟩
    refine run_firstCells_some w sz n ⟨b,o,none⟩ _ _ _ hlen (fun j v hj=>?_)
    rw [List.getElem?_take] at hj
    split at hj
    ·rw [Addr.add_lit]
     have:=hcell _ _ hj
     simp only [World.cell?] at this ⊢
     rw [hw]
     exact this
    ·cases hj
  ·cases h
 ·rename_i l0 ver nl cs' len sz0
  split at h
  ·rename_i hn'
   cases h
   have ha:=ha.weak
   simp only [AV.weak,R] at ha
   rcases ha with ⟨⟨p,rfl,rfl⟩,rfl,rfl⟩|⟨rfl,b,o,cap,vs,rfl,hle,hmx,hex,hl,hcl,hf,hcell⟩
   ·have h0 : n * sz=0:=by simpa using hn'
    refine ⟨[],by simp [RL],by simp,by simp [h0],fun w hw=>?_⟩
    cases p with
    | none=>simp [Builtin.firstCells]
    | some a=>exact run_firstCells_some w sz n a _ _ _ (by simp [h0]) (fun j v hj=>by simp at hj)
   ·have hlen : (vs.take (n * sz)).length=n * sz:=by have:=hl.length; simp; omega
    refine ⟨vs.take (n * sz),hl.take _,fun a ha=>hcl a (List.mem_of_mem_take ha),hlen,fun w hw=>?_⟩
    refine run_firstCells_some w sz n ⟨b,o,none⟩ _ _ _ hlen (fun j v hj=>?_)
    rw [List.getElem?_take] at hj
    split at hj
    ·rw [Addr.add_lit]
     have:=hcell _ _ hj
     simp only [World.cell?] at this ⊢
     rw [hw]
     exact this
    ·cases hj
  ·cases h
 ·rename_i ex l off len sz'
  split at h
  ·rename_i h0
   cases h
   refine ⟨[],by simp [RL],by simp,by simp [h0],fun w hw=>?_⟩
   simp only [R] at ha
   rcases ha with ⟨_,⟨_,rfl,_⟩|⟨hn,_⟩⟩
   ·simp [Builtin.firstCells]
   ·cases hn
  ·cases h
 ·rename_i ex l off len sz'
  split at h
  ·rename_i cs' hl'
   split at h
   ·rename_i hn2
    cases h
    obtain ⟨vs,h1,h2,h3⟩:=Holds.cell (hr.block l _ hl').2
    simp only [R] at ha
    obtain ⟨_,⟨hn0,_⟩|⟨_,cap,S,o,rfl,ho,hle,hmx,hex,hS,hSc⟩⟩:=ha
    ·cases hn0
    have hlen : ((vs.drop off).take (n * sz)).length=n * sz:=by have:=h1.length; simp; omega
    refine ⟨(vs.drop off).take (n * sz),(h1.drop _).take _,fun a ha=>h2 a (List.mem_of_mem_drop (List.mem_of_mem_take ha)),hlen,fun w hw=>?_⟩
    refine run_firstCells_some w sz n ⟨(x.at_ l).1,o,none⟩ _ _ _ hlen (fun j v hj=>?_)
    rw [List.getElem?_take] at hj
    split at hj
    ·rename_i hlt
     rw [List.getElem?_drop] at hj
     have hn':=hn len rfl
     have : 0 < n:=by
      rcases Nat.eq_zero_or_pos n with h0|h0
      ·subst h0; simp at hlt
      ·exact h0
     rw [Addr.add_lit,ho (by omega)]
     have:=h3 _ _ hj
     simp only [World.cell?] at this ⊢
     rw [hw,Nat.add_assoc]
     exact this
    ·cases hj
   ·cases h
  ·cases h
 ·rename_i s
  split at h
  ·rename_i hn'
   cases h
   have:=hstr s rfl
   subst this
   simp only [R] at ha
   subst ha
   rw [Nat.mul_one] at hn' ⊢
   refine ⟨(s.take n).map fun b=>.int .u8 b.toNat,?_,(by
    intro c hc
    obtain ⟨b,_,rfl⟩:=List.mem_map.1 hc
    rfl),by simp; omega,fun w hw=>?_⟩
   ·refine RL.of_get (by simp) (fun i a v ha hv=>?_)
    rw [List.getElem?_map,Option.map_eq_some_iff] at ha hv
    obtain ⟨p,hp,rfl⟩:=ha
    obtain ⟨q,hq,rfl⟩:=hv
    rw [hp] at hq
    cases hq
    simp [R]
   ·simp only [Builtin.firstCells,extract_bytes]
    simp
  ·cases h
 ·cases h
end Go.Abs
namespace Go.Abs
theorem acell_sound {x : Cx} {a : AV} {u : Value} {cs : List AV} (ha : R x a u) (h : acell a=some cs) : RL x cs u.cells.toList∧∀ c∈cs,c.isCell=true:=by
 unfold acell at h
 split at h
 ·cases h
  simp only [R] at ha
  obtain ⟨hc,vs,rfl,hl⟩:=ha
  exact ⟨by simpa [Value.cells] using hl,hc⟩
 ·cases h
 ·cases h
 ·rename_i h1 h2 h3
  cases h
  have hc : a.isCell=true:=by
   cases a<;>first|rfl|exact (h1 _ rfl).elim|exact (h2 _ rfl).elim|exact (h3 rfl).elim
  have ho:=R.oneCell ha hc
  have : u.cells=#[u]:=by cases u<;>first|rfl|(simp [Value.oneCell'] at ho)
  rw [this]
  exact ⟨⟨u,[],rfl,ha,rfl⟩,by simpa using hc⟩
theorem RL.oneCell {x : Cx} {as : List AV} {vs : List Value} (h : RL x as vs) (hc : ∀ a∈as,a.isCell=true) : ∀ v∈vs,v.oneCell'=true:=fun v hv=>by
 obtain ⟨a,ha,hr⟩:=h.mem hv
 exact R.oneCell hr (hc a ha)
theorem Rel.row {x : Cx} {H : AH} (hr : Rel x H) {cs : List AV} {vs : List Value} (hl : RL x cs vs) (hc : ∀ a∈cs,a.isCell=true) (c : Array Value) (t : TypeId) (fz : Nat×Nat) (hfz : ∀ i,i < c.size→¬ (fz.1≤i∧i < fz.2))
  (hcv : ∀ (i : Nat) (u : Value),vs[i]?=some u→c[i]?=some u) (hsz : cs.length≤c.size) (w' : World) (hw : w'.heap=x.w.heap.push (.cells c t fz)) (hos : w'.os=x.w.os) (htp : w'.tape=x.w.tape) (hout : w'.output=x.w.output) :
  Mv x.N x H (x.new (x.w.heap.size,0) w') (H++[.cells cs])∧Rel (x.new (x.w.heap.size,0) w') (H++[.cells cs])∧Keeps x (x.new (x.w.heap.size,0) w'):=by
 refine hr.push _ _ w' hw hos htp hout (fun hk=>?_)
 refine ⟨x.new_ver _ _,c,t,fz,vs,?_,hfz,RL.keeps hk _ _ hl,?_,fun i u hu=>?_,hc⟩<;>rw [x.new_at]
 ·show w'.heap[x.w.heap.size]?=_
  rw [hw]
  simp
 ·simpa using hsz
 ·simpa using hcv i u hu
theorem row_ptr {x : Cx} (w' : World) {H : AH} (hN : x.N=H.length) : R (x.new (x.w.heap.size,0) w') (.ptr H.length 0) (.pointer (some ⟨x.w.heap.size,0,none⟩)):=by
 simp only [R]
 rw [← hN,x.new_at]
 exact ⟨Nat.lt_succ_self _,x.new_ver _ _,rfl⟩
theorem row_ref {x : Cx} {w' : World} {H : AH} (hN : x.N=H.length) {ex : Bool} {len cap sz : Nat} {c : Array Value} {t : TypeId} {fz : Nat×Nat} (hw : w'.heap=x.w.heap.push (.cells c t fz)) (h1 : len≤cap) (h2 : cap≤maxLen) (h3 : ex=true→cap=len) (h4 : cap * sz≤c.size) :
  R (x.new (x.w.heap.size,0) w') (.ref ex false H.length 0 len sz) (.slice (some ⟨x.w.heap.size,0,none⟩) len cap):=by
 simp only [R]
 rw [← hN,x.new_at]
 refine ⟨⟨Nat.lt_succ_self _,x.new_ver _ _⟩,.inr ⟨trivial,cap,c.size,0,rfl,fun _=>rfl,h1,h2,h3,bsz_of (t:=t) (fz:=fz) ?_,by simpa using h4⟩⟩
 show w'.heap[x.w.heap.size]?=_
 rw [hw]
 simp
theorem write_sound {x : Cx} {H H' : AH} (hr : Rel x H) {l off : Nat} {cs : List AV} {vs : List Value} (hl : RL x cs vs) (hc : ∀ a∈cs,a.isCell=true) (h : awrite H l off cs=some H') (P : Program) :
  ∃ w',(storeCells ⟨(x.at_ l).1,(x.at_ l).2+off,none⟩ vs).run P x.w=.ok () w'∧Mv x.N x H { x with w:=w' } H'∧Rel { x with w:=w' } H'∧Keeps x { x with w:=w' }:=by
 unfold awrite at h
 split at h
 ·rename_i old hb
  split at h
  ·rename_i hle
   cases h
   obtain ⟨hv0,c,t,fz,us,h1,h2,h3,h4,h5,h6⟩:=hr.block l _ hb
   have hvl:=hl.length
   have hcell : ∀ j,j < vs.length→(x.w.cell? ⟨(x.at_ l).1,(x.at_ l).2+off+0+j,none⟩).isSome=true:=fun j hj=>by
    rw [cell_of_row _ _ _ _ _ _ h1,Array.getElem?_eq_getElem (by omega)]
    rfl
   have hfr : ∀ j,j < vs.length→x.w.frozen? ⟨(x.at_ l).1,(x.at_ l).2+off+0+j,none⟩=false:=fun j hj=>by
    have:=h2 ((x.at_ l).2+off+j) (by omega)
    simp only [World.frozen?,h1]
    simpa using this
   have hst:=run_storeCells_cells (P:=P) (x.at_ l).1 ((x.at_ l).2+off) vs 0 x.w hcell hfr (hl.oneCell hc)
   obtain ⟨c',g1,g2,g3,g4,g5⟩:=heap_setCells_same (x.at_ l).1 vs ((x.at_ l).2+off+0) x.w c t fz h1
   obtain ⟨o1,o2,o3,o4⟩:=setCells_os (x.at_ l).1 vs ((x.at_ l).2+off+0) x.w
   refine ⟨_,hst,?_⟩
   refine hr.update _ hb rfl rfl rfl rfl _ o4 (fun k hk=>heap_setCells_other _ _ _ _ _ hk) (fun s hs=>?_) o1 o2 o3 (fun hk=>?_)
   ·rw [bsz_of h1] at hs
    rw [bsz_of g1,g2]
    exact hs
   ·refine ⟨hv0,c',t,fz,us.take off++vs++us.drop (off+vs.length),g1,fun i hi=>h2 i (by omega),RL.keeps hk _ _ (h3.splice hl off),by rw [splice_length hle,g2]; exact h4,fun i u hu=>?_,splice_cells h6 hc⟩
    show c'[(x.at_ l).2+i]?=some u
    have hul:=h3.length
    rw [List.append_assoc,List.getElem?_append] at hu
    have ht : (us.take off).length=off:=by simp; omega
    split at hu
    ·rename_i hlt
     rw [ht] at hlt
     rw [List.getElem?_take,if_pos hlt] at hu
     rw [g3 _ (by omega)]
     exact h5 i u hu
    ·rename_i hge
     rw [ht] at hu hge
     rw [List.getElem?_append] at hu
     split at hu
     ·rename_i hlt
      have:=g5 _ u hu (by omega)
      rw [show (x.at_ l).2+i=(x.at_ l).2+off+0+(i - off) by omega]
      exact this
     ·rename_i hge2
      rw [List.getElem?_drop] at hu
      rw [g4 _ (by omega)]
      have:=h5 _ u hu
      rw [show off+vs.length+(i - off - vs.length)=i by omega] at this
      exact this
  ·cases h
 ·cases h
section
variable {P : Program} {T : TT} (hT : TyOk P T)
include hT
theorem astore_sound {x : Cx} {H H' : AH} (hr : Rel x H) {t : TypeId} {p v : AV} {pu vu : Value} (hp : R x p pu) (hv : R x v vu) (h : astore T H t p v=some H') :
  ∃ w',(Instr.storeAt t pu vu).run P x.w=.ok () w'∧Mv x.N x H { x with w:=w' } H'∧Rel { x with w:=w' } H'∧Keeps x { x with w:=w' }:=by
 unfold astore at h
 split at h
 ·rename_i p v l off vs hcv
  split at h
  ·rename_i hc
   obtain ⟨hk,hlen⟩:=hc
   obtain ⟨hl,hcc⟩:=acell_sound hv hcv
   simp only [R] at hp
   obtain ⟨_,_,rfl⟩:=hp
   obtain ⟨w',h1,h2⟩:=write_sound hr hl hcc h P
   refine ⟨w',?_,h2⟩
   have hsz : vu.cells.size=(T t).size:=by rw [← hlen,← hl.length]; simp
   simp [Instr.storeAt,Instr.sureAddr,storeVar,TyOk.size hT hk,hsz,h1]
  ·cases h
 ·cases h
omit hT in
theorem box_sound {x : Cx} {H : AH} (hr : Rel x H) {t : TypeId} {v : AV} {vu : Value} (hv : R x v vu) {cs : List AV} (h : acell v=some cs) :
  ∃ w',(Instr.box t vu).run P x.w=.ok (.pointer (some ⟨x.w.heap.size,0,none⟩)) w'∧Mv x.N x H (x.new (x.w.heap.size,0) w') (H++[.cells cs])∧Rel (x.new (x.w.heap.size,0) w') (H++[.cells cs])∧Keeps x (x.new (x.w.heap.size,0) w'):=by
 obtain ⟨hl,hc⟩:=acell_sound hv h
 refine ⟨x.w.alloc (.cells vu.cells t),by simp [Instr.box,newVar,newRow],?_⟩
 refine hr.row hl hc vu.cells t (0,0) (by simp) (fun i u hu=>by simpa using hu) (by rw [← hl.length]; simp) _ rfl rfl rfl rfl
theorem alloc_sound {x : Cx} {H : AH} (hr : Rel x H) {t : TypeId} (hk : (T t).d.known=true) :
  ∃ w',(Instr.alloc t true (.tuple #[])).run P x.w=.ok (.pointer (some ⟨x.w.heap.size,0,none⟩)) w'∧Mv x.N x H (x.new (x.w.heap.size,0) w') (H++[.cells (T t).zero])∧Rel (x.new (x.w.heap.size,0) w') (H++[.cells (T t).zero])∧Keeps x (x.new (x.w.heap.size,0) w'):=by
 obtain ⟨z,hz,hl⟩:=TyOk.zero hT hk x.w
 refine ⟨x.w.alloc (.cells z.cells t),by simp [Instr.alloc,hz,newVar,newRow],?_⟩
 refine hr.row (hl x).1 (hl x).2 z.cells t (0,0) (by simp) (fun i u hu=>by simpa using hu) (by rw [← (hl x).1.length]; simp) _ rfl rfl rfl rfl
end
theorem flat_get {α : Type} (l : List α) : ∀ (n i : Nat),(List.replicate n l).flatten[i]?=if i < n * l.length then l[i % l.length]? else none
 | 0,i=>by simp
 | n+1,i=>by
   rw [List.replicate_succ,List.flatten_cons,List.getElem?_append]
   split
   ·rename_i h
    rw [Nat.mod_eq_of_lt h,if_pos (by rw [Nat.add_mul]; omega)]
   ·rename_i h
    rw [flat_get l n]
    have hp : i - l.length < n * l.length↔i < (n+1) * l.length:=by rw [Nat.add_mul]; omega
    have hmod : i % l.length=(i - l.length) % l.length:=Nat.mod_eq_sub_mod (by omega)
    by_cases h2 : i < (n+1) * l.length
    ·rw [if_pos (hp.2 h2),if_pos h2,hmod]
    ·rw [if_neg (fun h'=>h2 (hp.1 h')),if_neg h2]
theorem zeros_row {x : Cx} {zs : List AV} {z : Array Value} (hl : RL x zs z.toList) (n : Nat) : RL x (List.replicate n zs).flatten ((Array.range (n * z.size)).map (z[· % z.size]!)).toList:=by
 refine RL.of_get ?_ (fun i a v ha hv=>?_)
 ·have:=hl.length
  simp at this ⊢
  rw [this]
 ·have hsz : z.size=zs.length:=by have:=hl.length; simpa using this
  rw [flat_get] at ha
  split at ha
  ·rename_i hlt
   obtain ⟨u,hu,hr⟩:=hl.get ha
   have : v=u:=by
    simp only [Array.toList_map,List.getElem?_map,Option.map_eq_some_iff] at hv
    obtain ⟨j,hj,rfl⟩:=hv
    rw [Array.getElem?_toList,Array.getElem?_range] at hj
    split at hj
    ·cases hj
     rw [Array.getElem?_toList] at hu
     rw [hsz,getElem!_def,hu]
    ·cases hj
   subst this
   exact hr
  ·cases ha
theorem foldl_set (off : Nat) : ∀ (us : List Value) (k : Nat) (cells : Array Value),off+k+us.length≤cells.size →
  ((us.zipIdx k).foldl (fun cs (p : Value×Nat)=>cs.setIfInBounds (off+p.2) p.1) cells).toList=cells.toList.take (off+k)++us++cells.toList.drop (off+k+us.length)
 | [],k,cells,h=>by simp
 | u::us,k,cells,h=>by
   simp only [List.zipIdx_cons,List.foldl_cons]
   rw [foldl_set off us (k+1) _ (by simp at h ⊢; omega)]
   simp at h
   have hp : off+k < cells.toList.length:=by simp; omega
   have hA : (cells.toList.take (off+k)).length=off+k:=by simp; omega
   rw [Array.toList_setIfInBounds,List.set_eq_take_append_cons_drop,if_pos hp]
   generalize hAA : cells.toList.take (off+k)=A at hA
   have h1 : (A++u::cells.toList.drop (off+k+1)).take (off+(k+1))=A++[u]:=by
    rw [show off+(k+1)=A.length+1 by omega,List.take_length_add_append]
    simp
   have h2 : (A++u::cells.toList.drop (off+k+1)).drop (off+(k+1)+us.length)=cells.toList.drop (off+k+(us.length+1)):=by
    rw [show off+(k+1)+us.length=A.length+(us.length+1) by omega,List.drop_length_add_append]
    simp only [List.drop_succ_cons,List.drop_drop]
    congr 1
    omega
   rw [h1,h2]
   simp
theorem fill_sound {x : Cx} {pl : Nat→Option (Nat×Nat)} : ∀ (ps : List (Nat×AV)) (qs : List (Nat×Value)) (cs : List AV) (c : Array Value) (r : List AV),RL x cs c.toList→(∀ a∈cs,a.isCell=true) →
  ps.length=qs.length→(∀ (j : Nat) (p : Nat×AV) (q : Nat×Value),ps[j]?=some p→qs[j]?=some q→p.1=q.1∧R x p.2 q.2)→afill pl cs ps=some r→∃ c',Instr.fill pl c qs=some c'∧RL x r c'.toList∧∀ a∈r,a.isCell=true
 | [],[],cs,c,r,hl,hc,_,_,h=>by
   simp only [afill,Option.some.injEq] at h
   subst h
   exact ⟨c,rfl,hl,hc⟩
 | [],_::_,_,_,_,_,_,hn,_,_=>by simp at hn
 | _::_,[],_,_,_,_,_,hn,_,_=>by simp at hn
 | (i,v)::ps,(i',u)::qs,cs,c,r,hl,hc,hn,hq,h=>by
   obtain ⟨rfl,hr⟩ : i=i'∧R x v u:=hq 0 (i,v) (i',u) rfl rfl
   simp only [afill] at h
   split at h
   ·rename_i off size vs h1 h2
    split at h
    ·rename_i hb
     obtain ⟨hvl,hvc⟩:=acell_sound hr h2
     have hcl : c.size=cs.length:=by have:=hl.length; simpa using this
     have hul : u.cells.size=vs.length:=by have:=hvl.length; simpa using this
     have hfold:=foldl_set off u.cells.toList 0 c (by simp; omega)
     simp only [Nat.add_zero] at hfold
     have hfold' : (u.cells.zipIdx.foldl (fun cs (p : Value×Nat)=>cs.setIfInBounds (off+p.2) p.1) c).toList=c.toList.take off++u.cells.toList++c.toList.drop (off+u.cells.toList.length):=by
      rw [← hfold,← Array.foldl_toList,Array.toList_zipIdx]
     obtain ⟨c',g1,g2,g3⟩:=fill_sound ps qs (splice cs off vs) (u.cells.zipIdx.foldl (fun cs (p : Value×Nat)=>cs.setIfInBounds (off+p.2) p.1) c) r
      (by rw [hfold']; exact hl.splice hvl off) (splice_cells hc hvc) (by simpa using hn) (fun j p q hp hq'=>hq (j+1) p q (by simpa using hp) (by simpa using hq')) h
     refine ⟨c',?_,g2,g3⟩
     simp only [Instr.fill,h1]
     have : (u.cells.size≠size || off+u.cells.size>c.size)=false:=by simp; omega
     rw [if_neg (by rw [this]; simp)]
     exact g1
    ·cases h
   ·cases h
end Go.Abs
namespace Go.Abs
theorem Rel.reuse {x : Cx} {H : AH} (hr : Rel x H) {l : Nat} {b0 : AB} (hl : H[l]?=some b0) (hb0 : b0.live=true) (hn0 : b0.isRoom=false) (p : Nat×Nat) (hp : p.1=(x.at_ l).1) (b : AB) (hbn : b.isRoom=false) (w' : World)
  (hs : w'.heap.size=x.w.heap.size) (ho : ∀ k,k≠(x.at_ l).1→w'.heap[k]?=x.w.heap[k]?) (hsz : ∀ s,bsz x.w (x.at_ l).1=some s→bsz w' (x.at_ l).1=some s)
  (hos : w'.os=x.w.os) (htp : w'.tape=x.w.tape) (hout : w'.output=x.w.output) (hb : Keeps x (x.new p w')→HoldsB (x.new p w') x.N b) :
  Mv x.N x H (x.new p w') (H.set l .dead++[b])∧Rel (x.new p w') (H.set l .dead++[b])∧Keeps x (x.new p w'):=by
 have hlive : Live H l:=⟨_,hl,hb0⟩
 have hsz' : ∀ k s,bsz x.w k=some s→bsz w' k=some s:=fun k s h=>by
  by_cases e : k=(x.at_ l).1
  ·subst e; exact hsz s h
  ·exact bsz_same (ho k e) h
 have hcell : ∀ k m,x.F k m→∀ i,i < m→w'.cell? ⟨k,i,none⟩=x.w.cell? ⟨k,i,none⟩:=fun k m hf i _=>cell_block (ho k (fun e=>hr.hot hl hb0 hn0 (e ▸ hf)))
 have hk : Keeps x (x.new p w'):=x.newV_keeps p 0 false w' hcell hsz'
 have hb:=hb hk
 have hlen : (H.set l .dead).length=H.length:=by simp
 have hold : ∀ m,m < x.N→(x.new p w').at_ m=x.at_ m:=fun m hm=>x.new_old _ _ hm
 have hlt : ∀ m,Live (H.set l .dead) m→m < x.N:=fun m hm=>by have:=hm.lt; rw [hr.N]; omega
 have hnew : (x.new p w').at_ (H.set l .dead).length=p:=by rw [hlen,← hr.N,x.new_at]
 refine ⟨⟨hk.at_,hk.ver,Nat.le_refl _,Nat.le_succ _,fun _ _ h=>h,hcell,hsz',by show _≤w'.heap.size; omega,hos,htp,hout,fun k _ hn=>ho k (fun e=>hn ⟨l,hlive,e.symm⟩),?_,fun _ _ h=>.inl h⟩,⟨?_,?_,?_,?_,?_⟩,hk⟩
 ·rintro k ⟨m,hm,rfl⟩
  rcases hm.app with h'|⟨rfl,h'⟩
  ·rw [hold m (hlt m h')]
   exact .inl ⟨m,h'.dead.1,rfl⟩
  ·rw [hnew,hp]
   exact .inl ⟨l,hlive,rfl⟩
 ·show x.N+1=_
  rw [hr.N]; simp
 ·intro m c hc
  rcases Nat.lt_trichotomy m (H.set l .dead).length with h'|h'|h'
  ·rw [getElem?_app_lt h'] at hc
   rcases set_get hc with ⟨rfl,rfl⟩|⟨e,hc⟩
   ·trivial
   ·have hm:=hr.lt hc
    exact HoldsB.keeps hk hm (x.newV_old _ _ _ _ hm).2.1 (fun hcl=>ho _ (fun e'=>e (hr.inj l m hlive ⟨_,hc,hcl⟩ e'.symm))) (hr.block m _ hc)
  ·subst h'
   have hcb : c=b:=by simpa using hc.symm
   subst hcb
   rw [hlen,← hr.N]
   exact hb
  ·rw [List.getElem?_eq_none (by simp at h' ⊢; omega)] at hc
   cases hc
 ·intro a c ha hc he
  rcases ha.app with h1|⟨rfl,h1⟩<;>rcases hc.app with h2|⟨rfl,h2⟩
  ·rw [hold a (hlt a h1),hold c (hlt c h2)] at he
   exact hr.inj a c h1.dead.1 h2.dead.1 he
  ·rw [hold a (hlt a h1),hnew,hp] at he
   exact absurd (hr.inj a l h1.dead.1 hlive he) h1.dead.2
  ·rw [hold c (hlt c h2),hnew,hp] at he
   exact absurd (hr.inj c l h2.dead.1 hlive he.symm) h2.dead.2
  ·rfl
 ·intro m c hc hcl k hf
  rcases Nat.lt_trichotomy m (H.set l .dead).length with h'|h'|h'
  ·rw [getElem?_app_lt h'] at hc
   rcases set_get hc with ⟨rfl,rfl⟩|⟨e,hc⟩
   ·cases hcl
   ·rw [hold m (hr.lt hc)] at hf ⊢
    exact hr.notF m c hc hcl k hf
  ·subst h'
   rw [hnew,hp] at hf
   exact absurd hf (hr.hot hl hb0 hn0)
  ·rw [List.getElem?_eq_none (by simp at h' ⊢; omega)] at hc
   cases hc
 ·intro k m hf
  show k < w'.heap.size
  rw [hs]
  exact hr.Flt k m hf
theorem Rel.worldly {x : Cx} {H : AH} (hr : Rel x H) (w' : World) (hsz0 : x.w.heap.size≤w'.heap.size) (hold : ∀ k,k < x.w.heap.size→w'.heap[k]?=x.w.heap[k]?) (hos : w'.os=x.w.os) (htp : w'.tape=x.w.tape) (hout : w'.output=x.w.output) :
  Mv x.N x H { x with w:=w' } H∧Rel { x with w:=w' } H∧Keeps x { x with w:=w' }:=by
 have hsz : ∀ k s,bsz x.w k=some s→bsz w' k=some s:=fun k s hs=>bsz_same (hold k (bsz_lt hs)) hs
 have hcell : ∀ k m,x.F k m→∀ i,i < m→w'.cell? ⟨k,i,none⟩=x.w.cell? ⟨k,i,none⟩:=fun k m hf i _=>cell_block (hold k (hr.Flt k m hf))
 have hk : Keeps x { x with w:=w' }:=⟨fun _ _ _=>⟨rfl,rfl⟩,fun _ _=>⟨Nat.le_refl _,id⟩,Nat.le_refl _,fun _ _ h=>h,hcell,hsz⟩
 refine ⟨⟨hk.at_,hk.ver,Nat.le_refl _,Nat.le_refl _,fun _ _ h=>h,hcell,hsz,hsz0,hos,htp,hout,fun k hk _=>hold k hk,fun k hk=>.inl hk,fun k m h=>.inl h⟩,⟨hr.N,fun l b hb=>?_,hr.inj,hr.notF,fun k m hf=>?_⟩,hk⟩
 ·exact HoldsB.keeps hk (hr.lt hb) rfl (fun hcl=>hold _ (Own.lt hr ⟨l,⟨_,hb,hcl⟩,rfl⟩)) (hr.block l b hb)
 ·have:=hr.Flt k m hf
  show k < w'.heap.size
  omega
def Cx.more (x : Cx) (Q : Nat→Nat→Prop) : Cx:={ x with F:=fun k m=>x.F k m∨Q k m }
theorem Cx.more_keeps (x : Cx) (Q : Nat→Nat→Prop) : Keeps x (x.more Q):=⟨fun _ _ _=>⟨rfl,rfl⟩,fun _ _=>⟨Nat.le_refl _,id⟩,Nat.le_refl _,fun _ _ h=>.inl h,fun _ _ _ _ _=>rfl,fun _ _ h=>h⟩
theorem Rel.more {x : Cx} {H : AH} (hr : Rel x H) {Q : Nat→Nat→Prop} (h1 : ∀ k m,Q k m→k < x.w.heap.size) (h2 : ∀ k m,Q k m→∀ l b,H[l]?=some b→b.live=true→(x.at_ l).1=k→b.isRoom=true∧m≤(x.at_ l).2) : Rel (x.more Q) H :=
 ⟨hr.N,fun l b hb=>HoldsB.keeps (x.more_keeps Q) (hr.lt hb) rfl (fun _=>rfl) (hr.block l b hb),hr.inj,fun l b hb hl m hf=>hf.elim (hr.notF l b hb hl m) (fun hq=>h2 _ m hq l b hb hl rfl),fun k m hf=>hf.elim (hr.Flt k m) (h1 k m)⟩
theorem Mv.more {n : Nat} {x y : Cx} {H H' : AH} (h : Mv n x H y H') {Q : Nat→Nat→Prop} (hQ : ∀ k m,Q k m→Own x H k∨x.w.heap.size≤k) : Mv n x H (y.more Q) H' :=
 ⟨h.at_,h.ver,h.Nx,h.N,fun k m hf=>.inl (h.F k m hf),h.same,h.sz,h.size,h.os,h.tape,h.output,h.frame,h.own,fun k m hf=>hf.elim (h.newF k m) (fun hq=>.inr (hQ k m hq))⟩
def Cx.roomy (x : Cx) (l : Nat) (p : Nat×Nat) (v : Nat) (r : Bool) (w : World) : Cx :=
 { x with at_:=fun k=>if k=l then p else x.at_ k,ver:=fun k=>if k=l then v else x.ver k,rl:=fun k=>if k=l then r else x.rl k,w:=w }
theorem Cx.roomy_same (x : Cx) (l : Nat) (p : Nat×Nat) (v : Nat) (r : Bool) (w : World) : (x.roomy l p v r w).at_ l=p∧(x.roomy l p v r w).ver l=v∧(x.roomy l p v r w).rl l=r:=by simp [Cx.roomy]
theorem Cx.roomy_other (x : Cx) {l : Nat} (p : Nat×Nat) (v : Nat) (r : Bool) (w : World) {k : Nat} (h : l≠k) : (x.roomy l p v r w).at_ k=x.at_ k∧(x.roomy l p v r w).ver k=x.ver k∧(x.roomy l p v r w).rl k=x.rl k:=by
 have : k≠l:=fun e=>h e.symm
 simp [Cx.roomy,this]
theorem Rel.room {x : Cx} {H : AH} (hr : Rel x H) {l v : Nat} {real : Bool} (hl : H[l]?=some (.room v real)) (p : Nat×Nat) (r : Bool) (w' : World) (hsz0 : x.w.heap.size≤w'.heap.size)
  (hold : ∀ k,k < x.w.heap.size→(real=true→k≠(x.at_ l).1)→w'.heap[k]?=x.w.heap[k]?) (hcell : ∀ k m,x.F k m→∀ i,i < m→w'.cell? ⟨k,i,none⟩=x.w.cell? ⟨k,i,none⟩) (hsz : ∀ k s,bsz x.w k=some s→bsz w' k=some s)
  (hos : w'.os=x.w.os) (htp : w'.tape=x.w.tape) (hout : w'.output=x.w.output) (hp : r=true→(real=true∧p.1=(x.at_ l).1∧(x.at_ l).2≤p.2)∨x.w.heap.size≤p.1) (hroom : r=true→HoldsRoom { x with w:=w' } p.1 p.2) :
  Mv x.N x H (x.roomy l p (v+1) r w') (H.set l (.room (v+1) r))∧Rel (x.roomy l p (v+1) r w') (H.set l (.room (v+1) r))∧Keeps x (x.roomy l p (v+1) r w'):=by
 obtain ⟨g1,g2,g3,g4⟩:=hr.block l _ hl
 obtain ⟨q1,q2,q3⟩:=x.roomy_same l p (v+1) r w'
 have hver : ∀ k,x.ver k≤(x.roomy l p (v+1) r w').ver k∧(x.ver k=0→(x.roomy l p (v+1) r w').ver k=0):=fun k=>by
  by_cases e : l=k
  ·subst e; rw [q2,g1]; exact ⟨by omega,fun e=>by omega⟩
  ·rw [(x.roomy_other p (v+1) r w' e).2.1]; exact ⟨Nat.le_refl _,id⟩
 have hat : ∀ k,(x.roomy l p (v+1) r w').ver k=x.ver k→(x.roomy l p (v+1) r w').at_ k=x.at_ k∧(x.roomy l p (v+1) r w').rl k=x.rl k:=fun k h=>by
  by_cases e : l=k
  ·subst e; rw [q2,g1] at h; omega
  ·exact ⟨(x.roomy_other p (v+1) r w' e).1,(x.roomy_other p (v+1) r w' e).2.2⟩
 have hk : Keeps x (x.roomy l p (v+1) r w'):=⟨fun k _ h=>hat k h,fun k _=>hver k,Nat.le_refl _,fun _ _ h=>h,hcell,hsz⟩
 have hlive : real=true→Live H l:=fun e=>⟨_,hl,e⟩
 have hoth : ∀ m,Live H m→l≠m→(x.at_ m).1 < x.w.heap.size∧(real=true→(x.at_ m).1≠(x.at_ l).1):=fun m hm e=>⟨Own.lt hr ⟨m,hm,rfl⟩,fun e1 e2=>e (hr.inj l m (hlive e1) hm e2.symm)⟩
 have hL : ∀ m,Live (H.set l (.room (v+1) r)) m→(l=m∧r=true)∨(l≠m∧Live H m):=fun m ⟨c,hc,hcl⟩=>by
  rcases set_get hc with ⟨rfl,rfl⟩|⟨e,hc⟩
  ·exact .inl ⟨rfl,hcl⟩
  ·exact .inr ⟨e,c,hc,hcl⟩
 refine ⟨⟨fun k _ h=>hat k h,fun k _=>hver k,Nat.le_refl _,Nat.le_refl _,fun _ _ h=>h,hcell,hsz,hsz0,hos,htp,hout,fun k hk hn=>hold k hk (fun e1 e2=>hn ⟨l,hlive e1,e2.symm⟩),?_,fun _ _ h=>.inl h⟩,⟨?_,?_,?_,?_,?_⟩,hk⟩
 ·rintro k ⟨m,hm,rfl⟩
  rcases hL m hm with ⟨rfl,e⟩|⟨e,hm⟩
  ·rw [q1]
   rcases hp e with ⟨e1,e2,_⟩|h
   ·exact .inl ⟨l,hlive e1,e2.symm⟩
   ·exact .inr h
  ·rw [(x.roomy_other p (v+1) r w' e).1]
   exact .inl ⟨m,hm,rfl⟩
 ·show x.N=_
  rw [hr.N]; simp
 ·intro m c hc
  rcases set_get hc with ⟨rfl,rfl⟩|⟨e,hc⟩
  ·refine ⟨q2,Nat.succ_pos _,q3,fun e=>?_⟩
   rw [q1]
   exact hroom e
  ·exact HoldsB.keeps hk (hr.lt hc) (x.roomy_other p (v+1) r w' e).2.1 (fun hcl=>hold _ (hoth m ⟨c,hc,hcl⟩ e).1 (hoth m ⟨c,hc,hcl⟩ e).2) (hr.block m c hc)
 ·intro a b ha hb he
  rcases hL a ha with ⟨rfl,ea⟩|⟨ea,ha⟩<;>rcases hL b hb with ⟨rfl,eb⟩|⟨eb,hb⟩
  ·rfl
  ·rw [q1,(x.roomy_other p (v+1) r w' eb).1] at he
   have:=hoth b hb eb
   rcases hp ea with ⟨e1,e2,_⟩|h
   ·exact absurd (he.symm.trans e2) (this.2 e1)
   ·omega
  ·rw [q1,(x.roomy_other p (v+1) r w' ea).1] at he
   have:=hoth a ha ea
   rcases hp eb with ⟨e1,e2,_⟩|h
   ·exact absurd (he.trans e2) (this.2 e1)
   ·omega
  ·rw [(x.roomy_other p (v+1) r w' ea).1,(x.roomy_other p (v+1) r w' eb).1] at he
   exact hr.inj a b ha hb he
 ·intro m c hc hcl k hf
  rcases set_get hc with ⟨rfl,rfl⟩|⟨e,hc⟩
  ·refine ⟨rfl,?_⟩
   rw [q1] at hf ⊢
   rcases hp hcl with ⟨e1,e2,e3⟩|h
   ·rw [e2] at hf
    have:=(hr.notF l _ hl e1 k hf).2
    omega
   ·have:=hr.Flt _ _ hf
    omega
  ·rw [(x.roomy_other p (v+1) r w' e).1] at hf ⊢
   exact hr.notF m c hc hcl k hf
 ·intro k m hf
  have:=hr.Flt k m hf
  show k < w'.heap.size
  omega
theorem run_append_room' {P : Program} {w : World} {t u ty e : TypeId} {d : TypeDesc} {i : TypeInfo} (ht : P.underlying t=some (.slice e)) (hu : P.underlying u=some d) (hd : ∀ k,d≠.int k) (hi : P.info? e=some i)
  {base : Option Addr} {n cap m : Nat} {x : Value} {news : List Value} (hm : (Builtin.lenOf x).run P w=.ok m w) (hf : (Builtin.firstCells i.size m x).run P w=.ok news.toArray w) (hroom : n+m≤cap) {w' : World}
  (hs : ∀ a,base=some a→(storeCells (a.add (n * i.size)) news).run P w=.ok () w') (hb : base=none→w'=w) :
  (Builtin.append_ #[t,u] ty #[.slice base n cap,x]).run P w=.ok (.slice base (n+m) cap) w':=by
 cases base with
 | none =>
   rw [hb rfl]
   simp [Builtin.append_,run_underlying ht,run_underlying hu,sizeOf,typeInfo,hi,hm,hroom,hf]
 | some a =>
   have hs':=hs a rfl
   simp [Builtin.append_,run_underlying ht,run_underlying hu,sizeOf,typeInfo,hi]
   cases d<;>first|simp [hm,hroom,hf,hs']|exact absurd rfl (hd _)
theorem run_append_grow' {P : Program} {w : World} {t u ty e : TypeId} {d : TypeDesc} {i : TypeInfo} {z : Value} (ht : P.underlying t=some (.slice e)) (hu : P.underlying u=some d) (hd : ∀ k,d≠.int k) (hi : P.info? e=some i) (hz : i.zero=some z)
  {base : Option Addr} {n cap m : Nat} {x : Value} {olds news : List Value} (hm : (Builtin.lenOf x).run P w=.ok m w) (hf : (Builtin.firstCells i.size m x).run P w.drew=.ok news.toArray w.drew) (hfo : (Builtin.firstCells i.size n (.slice base n cap)).run P w.drew=.ok olds.toArray w.drew)
  (hg : cap < n+m) (h63 : n+m≤maxLen) (hbytes : (n+m) * i.bytes≤140737488355328) :
  (Builtin.append_ #[t,u] ty #[.slice base n cap,x]).run P w=.ok (.slice (some ⟨w.heap.size,0,none⟩) (n+m) (grownCap w (n+m) cap e))
    (w.drew.alloc (.cells (olds.toArray++news.toArray++Builtin.zeroCells z.cells (grownCap w (n+m) cap e - (n+m))) e)):=by
 have hn : ¬ (n+m≤cap):=by omega
 have h63' : ¬ (9223372036854775807 < ((n : Int)+(m : Int))):=by simp only [maxLen] at h63; omega
 have h48:=growslice_fits hg hbytes
 have h48' : ¬ (281474976710656 < Builtin.nextslicecap (n+m) cap * i.bytes):=by omega
 simp [Builtin.append_,run_underlying ht,run_underlying hu,sizeOf,typeInfo,hi]
 cases d<;>first
  | exact absurd rfl (hd _)
  | (simp [hm,hn,h63',h48',zeroValue,typeInfo,hi,hz,Question.forced,hf,hfo,newRow,grownCap]; congr 2; apply Array.ext'; simp [List.append_assoc]; done)
  | (simp [hm,hn,h63',h48',zeroValue,typeInfo,hi,hz,Question.forced,hf,hfo,newRow,grownCap])
end Go.Abs
namespace Go.Abs
def OutV (x : Cx) (H H' : AH) (v : AV) (r : Result Value) : Prop:=∃ u y,r=.ok u y.w∧Mv x.N x H y H'∧Rel y H'∧Keeps x y∧R y v u
theorem OutV.pure {x : Cx} {H : AH} {v : AV} {u : Value} {r : Result Value} (hr : Rel x H) (hv : R x v u) (h : r=.ok u x.w) : OutV x H H v r:=⟨u,x,h,Mv.refl H (Nat.le_refl _),hr,Keeps.refl x,hv⟩
theorem feeds_str {sz : Nat} {a : AV} (h : feeds sz a=true) : ∀ s,a=.str s→sz=1:=fun s e=>by subst e; simpa [feeds] using h
section
variable {P : Program} {T : TT} (hT : TyOk P T)
include hT
theorem row_desc {t : TypeId} (h : (T t).d.row=true) : ∃ d,P.underlying t=some d∧∀ k,d≠.int k:=by
 cases hd : (T t).d<;>rw [hd] at h<;>simp only [AD.row] at h<;>first|(cases h; done)|skip
 ·have:=TyOk.desc hT hd rfl
  exact ⟨_,this,fun k e=>by cases e⟩
 ·have:=TyOk.desc hT hd rfl
  exact ⟨_,this,fun k e=>by cases e⟩
omit hT in
theorem R.frozen {x : Cx} {cs : List AV} {vs : List Value} {b o len cap : Nat} {ex : Bool} (h1 : len≤cap) (h2 : cap≤maxLen) (h3 : ex=true→cap=len) (hl : RL x cs vs) (hc : ∀ a∈cs,a.isCell=true) (hf : cs=[]∨x.Fz b (o+cs.length)) (hcell : ∀ i u,vs[i]?=some u→x.w.cell? ⟨b,o+i,none⟩=some u) :
  R x (.lit false ex cs len) (.slice (some ⟨b,o,none⟩) len cap):=by
 simp only [R]
 exact .inr ⟨trivial,b,o,cap,vs,rfl,h1,h2,h3,hl,hc,hf,hcell⟩
theorem grow_run {x : Cx} {sT xT ty e : TypeId} (hd : (T sT).d=.slice e) (hrow : (T xT).d.row=true) {n m cap : Nat} {base : Option Addr} {au : Value} {ovs nvs : List Value}
  (hml : (Builtin.lenOf au).run P x.w=.ok m x.w) (n3 : nvs.length=m * (T e).size) (o3 : ovs.length=n * (T e).size)
  (n4 : ∀ w : World,w.heap=x.w.heap→(Builtin.firstCells (T e).size m au).run P w=.ok nvs.toArray w) (o4 : ∀ w : World,w.heap=x.w.heap→(Builtin.firstCells (T e).size n (.slice base n cap)).run P w=.ok ovs.toArray w)
  (hf : fitsMore T e n m) (hg : cap < n+m) : ∃ g c,(Builtin.append_ #[sT,xT] ty #[.slice base n cap,au]).run P x.w=.ok (.slice (some ⟨x.w.heap.size,0,none⟩) (n+m) g) (x.w.drew.alloc (.cells c e))∧n+m≤g∧g≤maxLen∧c.size=g * (T e).size∧∀ (j : Nat) (u : Value),(ovs++nvs)[j]?=some u→c[j]?=some u:=by
 obtain ⟨d,hud,hdk⟩:=row_desc hT hrow
 have hu:=TyOk.desc hT hd rfl
 simp only [DescOk] at hu
 have hk:=hT.sub sT (by rw [hd]; rfl) e (by rw [hd]; simp [AD.subs])
 obtain ⟨i,z,hi,hsz,hby,hz,hzs,hzm⟩:=(hT.ty e hk).info
 obtain ⟨_,h63,hbytes⟩:=hf
 have hr1:=run_append_grow' (P:=P) (w:=x.w) (ty:=ty) (base:=base) (n:=n) (cap:=cap) (olds:=ovs) (news:=nvs) hu hud hdk hi hz hml (by rw [hsz]; exact n4 _ rfl) (by rw [hsz]; exact o4 _ rfl) hg h63 (by rw [hby]; exact hbytes)
 have hge:=grownCap_ge x.w (n+m) cap e
 have hlm:=grownCap_le_maxLen x.w (n+m) cap e h63
 generalize grownCap x.w (n+m) cap e=g at hr1 hge hlm
 refine ⟨g,_,hr1,hge,hlm,?_,fun j u hj=>?_⟩
 ·have : (Builtin.zeroCells z.cells (g - (n+m))).size=(g - (n+m)) * (T e).size:=by simp [Builtin.zeroCells,hzs,hsz]
  simp only [Array.size_append,List.size_toArray,this,o3,n3,← Nat.add_mul]
  congr 1
  omega
 ·have hlt:=(List.getElem?_eq_some_iff.1 hj).1
  rw [Array.getElem?_append,if_pos (by simpa using hlt)]
  simpa using hj
omit hT in
theorem drew_alloc {w : World} {o : Obj} : w.heap.size≤(w.drew.alloc o).heap.size∧(∀ k,k < w.heap.size→(w.drew.alloc o).heap[k]?=w.heap[k]?)∧(w.drew.alloc o).heap[w.heap.size]?=some o∧(w.drew.alloc o).heap.size=w.heap.size+1:=by
 have h : (w.drew.alloc o).heap=w.heap.push o:=rfl
 rw [h]
 refine ⟨by simp,fun k hk=>?_,by simp,by simp⟩
 rw [Array.getElem?_push,if_neg (by omega)]
theorem append_own {x : Cx} {H : AH} (hr : Rel x H) {sT xT ty e : TypeId} (hd : (T sT).d=.slice e) (hrow : (T xT).d.row=true) {l ver n m : Nat} {nl real : Bool} {cs new : List AV} {a : AV} {su au : Value} (hs : R x (.own l ver nl cs n (T e).size) su) (ha : R x a au) (hm : alen a=some m) (hfeed : feeds (T e).size a=true)
  (hnw : acells H (m * (T e).size) a=some new) (hroom : roomAt H l ver=some real) (hfit : fitsMore T e n m) :
  OutV x H (H.set l (.room (ver+1) (real || !(m==0)))) (.own l (ver+1) (nl&&m==0) (cs++new) (n+m) (T e).size) ((Builtin.append_ #[sT,xT] ty #[su,au]).run P x.w):=by
 obtain ⟨d,hud,hdk⟩:=row_desc hT hrow
 have hu:=TyOk.desc hT hd rfl
 simp only [DescOk] at hu
 have hk:=hT.sub sT (by rw [hd]; rfl) e (by rw [hd]; simp [AD.subs])
 obtain ⟨i,z,hi,hsz,hby,hz,hzs,hzm⟩:=(hT.ty e hk).info
 have hl : H[l]?=some (.room ver real):=by
  unfold roomAt at hroom
  split at hroom
  ·rename_i v r hv
   split at hroom
   ·rename_i e1; cases hroom; rw [hv,e1]
   ·cases hroom
  ·cases hroom
 obtain ⟨g1,g2,g3,g4⟩:=hr.block l _ hl
 have hs0:=hs
 simp only [R] at hs
 obtain ⟨⟨hlN,hv0,hvl,hcl⟩,hs⟩:=hs
 obtain ⟨nvs,n1,n2,n3,n4⟩:=acells_sound (P:=P) hr ha hnw (feeds_str hfeed) (fun len hl=>by rw [hm] at hl; cases hl; exact Nat.le_refl _)
 have hml:=alen_sound (P:=P) ha hm x.w
 have hnl : new.length=m * (T e).size:=by rw [← n1.length,n3]
 have oc : acells H (n * (T e).size) (.own l ver nl cs n (T e).size)=some cs:=by simp [acells,hcl,List.take_of_length_le]
 obtain ⟨ovs,o1,o2,o3,o4⟩:=acells_sound (P:=P) hr hs0 oc (fun q e'=>by cases e') (fun len hl=>by cases hl; exact Nat.le_refl _)
 have hlen : (cs++new).length=(n+m) * (T e).size:=by rw [List.length_append,hcl,hnl,Nat.add_mul]
 have hcells : ∀ a∈cs++new,a.isCell=true:=fun a ha=>(List.mem_append.1 ha).elim (o2 a) (n2 a)
 have hgrow : ∀ base cap,su=.slice base n cap→cap < n+m→m≠0→OutV x H (H.set l (.room (ver+1) (real || !(m==0)))) (.own l (ver+1) (nl&&m==0) (cs++new) (n+m) (T e).size) ((Builtin.append_ #[sT,xT] ty #[su,au]).run P x.w):=by
  rintro base cap rfl hg hm0
  obtain ⟨g,c,hrun,c1,c2,c3,c4⟩:=grow_run hT (ty:=ty) hd hrow hml n3 o3 n4 o4 hfit hg
  obtain ⟨d1,d2,d3,d4⟩:=drew_alloc (w:=x.w) (o:=.cells c e)
  have hrm : (real || !(m==0))=true:=by simp [hm0]
  have hnl0 : (nl&&m==0)=false:=by simp [hm0]
  rw [hrm,hnl0]
  have hec : (n+m) * (T e).size≤c.size:=by rw [c3]; exact Nat.mul_le_mul_right _ c1
  obtain ⟨k1,k2,k3⟩:=hr.room hl (x.w.heap.size,(n+m) * (T e).size) true _ d1 (fun k hk _=>d2 k hk) (fun k m hf i _=>cell_block (d2 k (hr.Flt k m hf))) (fun k s hs=>bsz_same (d2 k (bsz_lt hs)) hs) rfl rfl rfl (fun _=>.inr (Nat.le_refl _))
   (fun _=>⟨c,e,(0,0),d3,by simp,hec⟩)
  let Q : Nat→Nat→Prop:=fun k q=>k=x.w.heap.size∧q=(n+m) * (T e).size
  obtain ⟨q1,q2,q3⟩:=x.roomy_same l (x.w.heap.size,(n+m) * (T e).size) (ver+1) true (x.w.drew.alloc (.cells c e))
  have hrel:=k2.more (Q:=Q) (fun k q hq=>by rw [hq.1]; show _ < (x.w.drew.alloc (.cells c e)).heap.size; omega) (fun k q hq j b hb hbl he=>by
   rcases set_get hb with ⟨rfl,rfl⟩|⟨ne,hb⟩
   ·rw [q1,hq.2]; exact ⟨rfl,Nat.le_refl _⟩
   ·rw [(x.roomy_other _ _ _ _ ne).1,hq.1] at he
    have:=Own.lt hr ⟨j,⟨b,hb,hbl⟩,rfl⟩
    omega)
  have hkeep:=k3.trans (Cx.more_keeps _ Q)
  refine ⟨_,_,hrun,k1.more (Q:=Q) (fun k q hq=>.inr (by rw [hq.1]; exact Nat.le_refl _)),hrel,hkeep,?_⟩
  simp only [R]
  refine ⟨⟨hlN,Nat.succ_pos _,Nat.le_of_eq q2.symm,hlen⟩,.inr ⟨trivial,x.w.heap.size,0,g,ovs++nvs,rfl,c1,c2,RL.keeps hkeep _ _ (o1.append n1),hcells,.inr (.of (.inr ⟨rfl,by rw [hlen,Nat.zero_add]⟩)),fun j u hj=>?_,fun _=>.inr ⟨q3,?_,g * (T e).size,?_,?_⟩⟩⟩
  ·show (x.w.drew.alloc (.cells c e)).cell? _=_
   rw [cell_of_row _ _ _ _ _ _ d3,Nat.zero_add]
   exact c4 j u hj
  ·refine q1.trans ?_
   rw [hlen,Nat.zero_add]
  ·show bsz (x.w.drew.alloc (.cells c e)) _=_
   rw [bsz_of d3,c3]
  ·omega
 by_cases hm0 : m=0
 ·
  subst hm0
  have hnil : nvs=[]:=List.length_eq_zero_iff.1 (by rw [n3]; simp)
  have hnn : new=[]:=by rw [hnil] at n1; simpa using n1.length.symm
  subst hnil hnn
  have hrm : (real || !(0==0))=real:=by simp
  have hnl0 : (nl&&(0 : Nat)==0)=nl:=by simp
  rw [hrm,hnl0,List.append_nil,Nat.add_zero]
  obtain ⟨k1,k2,k3⟩:=hr.room hl (x.at_ l) real x.w (Nat.le_refl _) (fun _ _ _=>rfl) (fun _ _ _ _ _=>rfl) (fun _ _ h=>h) rfl rfl rfl (fun e=>.inl ⟨e,rfl,Nat.le_refl _⟩) (fun e=>g4 e)
  obtain ⟨q1,q2,q3⟩:=x.roomy_same l (x.at_ l) (ver+1) real x.w
  have hshape : ∃ base cap,su=.slice base n cap∧n≤cap:=by
   rcases hs with ⟨⟨p,hpn,rfl⟩,_,rfl⟩|⟨_,b,o,cap,vs,rfl,hle,_⟩
   ·exact ⟨_,_,rfl,Nat.le_refl _⟩
   ·exact ⟨_,_,rfl,hle⟩
  refine ⟨su,_,?_,k1,k2,k3,?_⟩
  ·obtain ⟨base,cap,rfl,hle⟩:=hshape
   exact run_append_room' (ty:=ty) (base:=base) (n:=n) (cap:=cap) hu hud hdk hi hml (by rw [hsz]; exact n4 x.w rfl) (by omega) (w':=x.w) (fun a _=>by simp [storeCells]) (fun _=>rfl)
  ·have:=R.keeps k3 _ _ hs0
   simp only [R] at this ⊢
   refine ⟨⟨hlN,Nat.succ_pos _,by rw [q2]; exact Nat.le_refl _,hcl⟩,?_⟩
   rcases this.2 with h|⟨h0,b,o,cap,vs,h1,h2,h3,h4,h5,h6,h7,_⟩
   ·exact .inl h
   ·refine .inr ⟨h0,b,o,cap,vs,h1,h2,h3,h4,h5,h6,h7,fun _=>?_⟩
    rcases hs with ⟨⟨pp,_,hsv⟩,_⟩|⟨_,b',o',cap',vs',e',_,_,_,_,_,_,ht⟩
    ·rw [h1] at hsv
     cases hsv
     exact .inl rfl
    ·rw [h1] at e'
     cases e'
     rcases ht g1 with ht|⟨t1,t2,S,t3,t4⟩
     ·exact .inl ht
     ·exact .inr ⟨q3.trans (g3.symm.trans t1),q1.trans t2,S,t3,t4⟩
 ·rcases hs with ⟨⟨p,hh,rfl⟩,rfl,rfl⟩|⟨hnl0,b,o,cap,vs,rfl,hle,hcm,hvs,hvc,hff,hcell,ht⟩
  ·exact hgrow p 0 rfl (by omega) hm0
  ·rcases Nat.lt_or_ge cap (n+m) with hg|hroom'
   ·exact hgrow _ cap rfl hg hm0
   ·
    rcases ht g1 with ht|⟨t1,t2,S,t3,t4⟩
    ·omega
    have hreal : real=true:=g3.symm.trans t1
    subst hreal
    obtain ⟨c,t,fz,h1,h2,h3⟩:=g4 rfl
    rw [t2] at h1 h3
    simp only at h1 h3
    rw [bsz_of h1] at t3
    cases t3
    have hmul : (n+m) * (T e).size≤cap * (T e).size:=Nat.mul_le_mul_right _ hroom'
    rw [Nat.add_mul] at hmul
    have hcellw : ∀ j,j < nvs.length→(x.w.cell? ⟨b,o+n * (T e).size+0+j,none⟩).isSome=true:=fun j hj=>by
     rw [cell_of_row _ _ _ _ _ _ h1,Array.getElem?_eq_getElem (by omega)]
     rfl
    have hfr : ∀ j,j < nvs.length→x.w.frozen? ⟨b,o+n * (T e).size+0+j,none⟩=false:=fun j hj=>by
     have:=h2 (o+n * (T e).size+0+j) (by omega)
     simp only [World.frozen?,h1]
     simpa using this
    have hst:=run_storeCells_cells (P:=P) b (o+n * (T e).size) nvs 0 x.w hcellw hfr (n1.oneCell n2)
    obtain ⟨c',k1,k2,k3,k4,k5⟩:=heap_setCells_same b nvs (o+n * (T e).size+0) x.w c t fz h1
    obtain ⟨q1,q2,q3,q4⟩:=setCells_os b nvs (o+n * (T e).size+0) x.w
    have hrun:=run_append_room' (ty:=ty) (base:=some ⟨b,o,none⟩) (n:=n) (cap:=cap) hu hud hdk hi hml (by rw [hsz]; exact n4 x.w rfl) hroom'
     (w':=x.w.setCells b (o+n * (T e).size+0) nvs) (fun a ha=>by cases ha; rw [Addr.add_lit,hsz]; exact hst) (fun h=>by cases h)
    generalize hW : x.w.setCells b (o+n * (T e).size+0) nvs=W at *
    have hoth : ∀ k,k≠b→W.heap[k]?=x.w.heap[k]?:=fun k hk=>by rw [← hW]; exact heap_setCells_other _ _ _ _ _ hk
    have hFb : ∀ q,x.F b q→q≤o+n * (T e).size:=fun q hq=>by
     have:=(hr.notF l _ hl rfl q (by rw [t2]; exact hq)).2
     rw [t2] at this
     simp only at this
     omega
    have hcellF : ∀ k q,x.F k q→∀ i,i < q→W.cell? ⟨k,i,none⟩=x.w.cell? ⟨k,i,none⟩:=fun k q hf i hi=>by
     by_cases e : k=b
     ·subst e
      rw [cell_of_row _ _ _ _ _ _ h1,cell_of_row _ _ _ _ _ _ k1]
      exact k3 i (by have:=hFb q hf; omega)
     ·exact cell_block (hoth k e)
    have hbs : ∀ k s,bsz x.w k=some s→bsz W k=some s:=fun k s hs=>by
     by_cases e : k=b
     ·subst e
      rw [bsz_of h1] at hs
      rw [bsz_of k1,k2]
      exact hs
     ·exact bsz_same (hoth k e) hs
    have hnl0' : (nl&&m==0)=false:=by simp [hnl0]
    have hrm : (true || !(m==0))=true:=rfl
    rw [hrm,hnl0']
    have hend : o+(cs++new).length=o+n * (T e).size+m * (T e).size:=by rw [hlen,Nat.add_mul]; omega
    obtain ⟨r1,r2,r3⟩:=hr.room hl (b,o+(cs++new).length) true W (by omega) (fun k _ hk=>hoth k (by have:=hk rfl; rw [t2] at this; exact this)) hcellF hbs q1 q2 q3
     (fun _=>.inl ⟨rfl,by rw [t2],by rw [t2]; simp only; rw [hend]; omega⟩) (fun _=>⟨c',t,fz,k1,fun i hi=>h2 i (by omega),by rw [k2,hend]; omega⟩)
    let Q : Nat→Nat→Prop:=fun k q=>k=b∧q=o+(cs++new).length
    obtain ⟨s1,s2,s3⟩:=x.roomy_same l (b,o+(cs++new).length) (ver+1) true W
    have hlive : Live H l:=⟨_,hl,rfl⟩
    have hbl : (x.at_ l).1=b:=by rw [t2]
    have hrel:=r2.more (Q:=Q) (fun k q hq=>by rw [hq.1]; show b < W.heap.size; rw [q4]; exact heap_lt h1) (fun k q hq j bb hb hbl' he=>by
     rcases set_get hb with ⟨rfl,rfl⟩|⟨ne,hb⟩
     ·rw [s1,hq.2]; exact ⟨rfl,Nat.le_refl _⟩
     ·rw [(x.roomy_other _ _ _ _ ne).1,hq.1] at he
      exact absurd (hr.inj l j hlive ⟨bb,hb,hbl'⟩ (by rw [hbl,he])) ne)
    have hkeep:=r3.trans (Cx.more_keeps _ Q)
    refine ⟨_,_,hrun,r1.more (Q:=Q) (fun k q hq=>.inl ⟨l,hlive,by rw [hq.1,hbl]⟩),hrel,hkeep,?_⟩
    simp only [R]
    refine ⟨⟨hlN,Nat.succ_pos _,Nat.le_of_eq s2.symm,hlen⟩,.inr ⟨trivial,b,o,cap,ovs++nvs,rfl,hroom',hcm,RL.keeps hkeep _ _ (o1.append n1),hcells,.inr (.of (.inr ⟨rfl,rfl⟩)),fun j u hj=>?_,fun _=>.inr ⟨s3,?_,c'.size,?_,?_⟩⟩⟩
    ·show W.cell? _=_
     rw [cell_of_row _ _ _ _ _ _ k1]
     rw [List.getElem?_append] at hj
     split at hj
     ·rename_i hlt
      rw [k3 _ (by omega)]
      have hvo : vs=ovs:=by
       have w1:=o4 x.w rfl
       have w2:=run_firstCells_some (P:=P) x.w (T e).size n ⟨b,o,none⟩ n cap vs (by rw [hvs.length,hcl]) (fun j v hj=>by rw [Addr.add_lit]; exact hcell j v hj)
       rw [w2] at w1
       simpa using w1
      rw [← hvo] at hj
      have:=hcell j u hj
      rw [cell_of_row _ _ _ _ _ _ h1] at this
      exact this
     ·rename_i hge
      have hlt:=(List.getElem?_eq_some_iff.1 hj).1
      have:=k5 _ u hj (by omega)
      rw [show o+j=o+n * (T e).size+0+(j - ovs.length) by omega]
      exact this
    ·exact s1
    ·show bsz W _=_
     rw [bsz_of k1]
    ·rw [k2]; omega
theorem append_sound {x : Cx} {H H' : AH} (hr : Rel x H) {sT xT ty : TypeId} {s a v : AV} {su au : Value} (hs : R x s su) (ha : R x a au) (h : aappend T H sT xT s a=some (v,H')) :
  OutV x H H' v ((Builtin.append_ #[sT,xT] ty #[su,au]).run P x.w):=by
 unfold aappend at h
 split at h
 case h_2=>cases h
 rename_i e hd
 split at h
 case isFalse=>cases h
 rename_i hc
 obtain ⟨hrow,hfeed,hns⟩:=hc
 split at h
 ·
  rename_i l ver nl cs n sz
  split at h
  ·rename_i m hm
   split at h
   ·rename_i new real hnw hroom
    split at h
    ·rename_i hc2
     obtain ⟨hfit,rfl⟩:=hc2
     cases h
     exact append_own hT hr hd hrow hs ha hm hfeed hnw hroom hfit
    ·cases h
   ·cases h
  ·cases h
 ·rename_i hnown
  split at h
  case h_2=>cases h
  rename_i n m hn hm
  split at h
  case h_2=>cases h
  rename_i old new ho hnw
  obtain ⟨d,hud,hdk⟩:=row_desc hT hrow
  have hu:=TyOk.desc hT hd rfl
  simp only [DescOk] at hu
  have hk:=hT.sub sT (by rw [hd]; rfl) e (by rw [hd]; simp [AD.subs])
  obtain ⟨i,z,hi,hsz,hby,hz,hzs,hzm⟩:=(hT.ty e hk).info
  obtain ⟨ovs,o1,o2,o3,o4⟩:=acells_sound (P:=P) hr hs ho (fun q e'=>by subst e'; cases hns) (fun len hl=>by rw [hn] at hl; cases hl; exact Nat.le_refl _)
  obtain ⟨nvs,n1,n2,n3,n4⟩:=acells_sound (P:=P) hr ha hnw (feeds_str hfeed) (fun len hl=>by rw [hm] at hl; cases hl; exact Nat.le_refl _)
  have hml:=alen_sound (P:=P) ha hm x.w
  have hshape : ∃ base cap,su=.slice base n cap∧n≤cap:=by
   cases s<;>simp only [alen] at hn<;>first|(cases hn; done)|skip
   ·cases hns
   ·cases hn
    simp only [R] at hs
    rcases hs with ⟨⟨p,hpn,rfl⟩,_,rfl⟩|⟨_,b,o,cap,vs,rfl,hle,_⟩
    ·exact ⟨_,_,rfl,Nat.le_refl _⟩
    ·exact ⟨_,_,rfl,hle⟩
   ·cases hn
    simp only [R] at hs
    obtain ⟨_,⟨_,rfl,rfl⟩|⟨_,cap,S,o,rfl,_,hle,_⟩⟩:=hs
    ·exact ⟨_,_,rfl,Nat.le_refl _⟩
    ·exact ⟨_,_,rfl,hle⟩
   ·exact absurd rfl (hnown _ _ _ _ _ _)
  obtain ⟨base,cap,rfl,hcap⟩:=hshape
  split at h
  ·
   rename_i h0
   subst h0
   cases h
   have hnil : nvs=[]:=List.length_eq_zero_iff.1 (by rw [n3]; simp)
   subst hnil
   refine OutV.pure hr hs ?_
   have:=run_append_room' (ty:=ty) (base:=base) (n:=n) (cap:=cap) hu hud hdk hi hml (by rw [hsz]; exact n4 x.w rfl) (by omega) (w':=x.w) (fun a _=>by simp [storeCells]) (fun _=>rfl)
   simpa using this
  ·rename_i hm0
   split at h
   case isFalse=>cases h
   rename_i hfit
   have hgrow : cap < n+m→OutV x H (H++[.cells (old++new)]) (.ref false false H.length 0 (n+m) (T e).size) ((Builtin.append_ #[sT,xT] ty #[.slice base n cap,au]).run P x.w):=by
    intro hg
    obtain ⟨g,c,hrun,c1,c2,c3,c4⟩:=grow_run hT (ty:=ty) hd hrow hml n3 o3 n4 o4 hfit hg
    have hrow:=hr.row (o1.append n1) (fun a ha=>(List.mem_append.1 ha).elim (o2 a) (n2 a)) c e (0,0) (by simp) c4 (by
      rw [c3,List.length_append,← o1.length,← n1.length,o3,n3,← Nat.add_mul]
      exact Nat.mul_le_mul_right _ c1) (x.w.drew.alloc (.cells c e)) rfl rfl rfl rfl
    exact ⟨_,_,hrun,hrow.1,hrow.2.1,hrow.2.2,row_ref hr.N rfl c1 c2 (by simp) (by rw [c3]; exact Nat.le_refl _)⟩
   obtain ⟨hp,h63,hbytes⟩:=hfit
   split at h
   ·
    rename_i nl cs len
    cases h
    refine hgrow ?_
    simp only [R] at hs
    rcases hs with ⟨⟨_,_,hs⟩,_⟩|⟨_,b,o,cap',vs,hs,_,_,hex,_⟩
    ·cases hs; omega
    ·cases hs
     have:=hex trivial
     simp only [alen] at hn
     cases hn
     omega
   ·rename_i l off len sz
    split at h
    ·cases h
     refine hgrow ?_
     simp only [R] at hs
     simp only [alen] at hn
     cases hn
     obtain ⟨_,⟨_,hs,h0⟩|⟨_,cap',S,o,hs,_,_,_,hex,_⟩⟩:=hs
     ·cases hs; omega
     ·cases hs
      have:=hex trivial
      omega
    ·cases h
   ·rename_i nl l off len sz
    split at h
    case isFalse=>cases h
    rename_i hsz'
    subst hsz'
    cases h
    simp only [alen,Option.some.injEq] at hn
    subst hn
    rcases Nat.lt_or_ge cap (len+m) with hg|hroom
    ·
     obtain ⟨u,y,e1,e2,e3,e4,e5⟩:=hgrow hg
     have hlt : l < H.length:=by
      simp only [R] at hs
      rw [← hr.N]; exact hs.1.1
     have hset : (H++[AB.cells (old++new)]).set l .dead=H.set l .dead++[AB.cells (old++new)]:=List.set_append_left _ _ hlt
     have hd1:=e3.dead l
     rw [hset] at hd1
     exact ⟨u,y,e1,e2.trans (hd1.2.mono e2.N),hd1.1,e4,e5⟩
    ·
     have hnl : nl=false:=by
      simp only [R] at hs
      rcases hs with ⟨_,⟨_,hs,h0⟩|⟨h0,_⟩⟩
      ·cases hs; omega
      ·exact h0
     subst hnl
     simp only [acells] at ho
     split at ho
     case h_2=>cases ho
     rename_i cs hlc
     split at ho
     case isFalse=>cases ho
     rename_i hoff
     cases ho
     obtain ⟨_,c,t,fz,us,g1,g2,g3,g4,g5,g6⟩:=hr.block l _ hlc
     simp only [R] at hs
     obtain ⟨⟨hN,_⟩,⟨hn0,_⟩|⟨_,cap',S,o,hs,hoo,hle,hcm,hex,hS,hSc⟩⟩:=hs
     ·cases hn0
     cases hs
     have ho':=hoo (by omega)
     subst ho'
     rw [bsz_of g1] at hS
     cases hS
     have hmul : len * (T e).size+m * (T e).size≤cap * (T e).size:=by rw [← Nat.add_mul]; exact Nat.mul_le_mul_right _ hroom
     have hcell : ∀ j,j < nvs.length→(x.w.cell? ⟨(x.at_ l).1,(x.at_ l).2+off+len * (T e).size+0+j,none⟩).isSome=true:=fun j hj=>by
      rw [cell_of_row _ _ _ _ _ _ g1,Array.getElem?_eq_getElem (by omega)]
      rfl
     have hfr : ∀ j,j < nvs.length→x.w.frozen? ⟨(x.at_ l).1,(x.at_ l).2+off+len * (T e).size+0+j,none⟩=false:=fun j hj=>by
      have:=g2 ((x.at_ l).2+off+len * (T e).size+0+j) (by omega)
      simp only [World.frozen?,g1]
      simpa using this
     have hst:=run_storeCells_cells (P:=P) (x.at_ l).1 ((x.at_ l).2+off+len * (T e).size) nvs 0 x.w hcell hfr (n1.oneCell n2)
     obtain ⟨c',k1,k2,k3,k4,k5⟩:=heap_setCells_same (x.at_ l).1 nvs ((x.at_ l).2+off+len * (T e).size+0) x.w c t fz g1
     obtain ⟨q1,q2,q3,q4⟩:=setCells_os (x.at_ l).1 nvs ((x.at_ l).2+off+len * (T e).size+0) x.w
     have hrun:=run_append_room' (ty:=ty) (base:=some ⟨(x.at_ l).1,(x.at_ l).2+off,none⟩) (n:=len) (cap:=cap) hu hud hdk hi hml (by rw [hsz]; exact n4 x.w rfl) hroom
      (w':=x.w.setCells (x.at_ l).1 ((x.at_ l).2+off+len * (T e).size+0) nvs) (fun a ha=>by cases ha; rw [Addr.add_lit,hsz]; exact hst) (fun h=>by cases h)
     generalize hW : x.w.setCells (x.at_ l).1 ((x.at_ l).2+off+len * (T e).size+0) nvs=W at *
     have hoth : ∀ k,k≠(x.at_ l).1→W.heap[k]?=x.w.heap[k]?:=fun k hk=>by rw [← hW]; exact heap_setCells_other _ _ _ _ _ hk
     have hsame : ∀ s,bsz x.w (x.at_ l).1=some s→bsz W (x.at_ l).1=some s:=fun s hs=>by
      rw [bsz_of g1] at hs
      rw [bsz_of k1,k2]
      exact hs
     have hre:=hr.reuse hlc rfl rfl ((x.at_ l).1,(x.at_ l).2+off) rfl (.cells ((cs.drop off).take (len * (T e).size)++new)) rfl W q4 hoth hsame q1 q2 q3 (fun hk=>by
      have hul:=g3.length
      have hol : ((us.drop off).take (len * (T e).size)).length=len * (T e).size:=by simp; omega
      refine ⟨x.new_ver _ _,c',t,fz,(us.drop off).take (len * (T e).size)++nvs,by rw [x.new_at]; exact k1,fun i hi=>g2 i (by omega),RL.keeps hk _ _ (((g3.drop off).take _).append n1),?_,fun i u hi'=>?_,fun a ha=>?_⟩
      ·rw [List.length_append,← ((g3.drop off).take (len * (T e).size)).length,hol,← n1.length,n3,k2]
       rw [x.new_at]
       show (x.at_ l).2+off+_≤_
       omega
      ·rw [x.new_at]
       show c'[(x.at_ l).2+off+i]?=some u
       rw [List.getElem?_append] at hi'
       split at hi'
       ·rename_i hlt
        rw [hol] at hlt
        rw [List.getElem?_take,if_pos hlt,List.getElem?_drop] at hi'
        rw [k3 _ (by omega),Nat.add_assoc]
        exact g5 _ u hi'
       ·rename_i hge
        rw [hol] at hge hi'
        have hlt:=(List.getElem?_eq_some_iff.1 hi').1
        have:=k5 _ u hi' (by omega)
        rw [show (x.at_ l).2+off+i=(x.at_ l).2+off+len * (T e).size+0+(i - len * (T e).size) by omega]
        exact this
      ·rcases List.mem_append.1 ha with h|h
       ·exact g6 a (List.mem_of_mem_drop (List.mem_of_mem_take h))
       ·exact n2 a h)
     refine ⟨_,_,hrun,hre.1,hre.2.1,hre.2.2,?_⟩
     simp only [R]
     rw [← hr.N,x.new_at]
     refine ⟨⟨Nat.lt_succ_self _,x.new_ver _ _⟩,.inr ⟨trivial,cap,c.size,_,rfl,fun _=>rfl,hroom,hcm,by simp,?_,by show (x.at_ l).2+off+0+_≤_; omega⟩⟩
     show bsz W (x.at_ l).1=_
     rw [bsz_of k1,k2]
   ·cases h
theorem appendR_sound {x : Cx} {H H' : AH} (hr : Rel x H) {sT xT ty : TypeId} {s a v : AV} {su au : Value} (hs : R x s su) (ha : R x a au) (h : aappendR T H sT xT s a=some (v,H')) :
  OutV x H H' v ((Builtin.append_ #[sT,xT] ty #[su,au]).run P x.w):=by
 unfold aappendR at h
 split at h
 case h_2=>cases h
 rename_i e hd
 split at h
 case isFalse=>cases h
 rename_i hc
 obtain ⟨hrow,hfeed⟩:=hc
 split at h
 case h_3=>cases h
 case h_2 =>
  rename_i m hm
  split at h
  case h_2=>cases h
  rename_i new hnw
  split at h
  case isFalse=>cases h
  rename_i hfit
  have hsu : su=.slice none 0 0:=by
   simp only [R] at hs
   rcases hs with ⟨⟨p,hp,h⟩,_⟩|⟨h,_⟩
   ·cases p with
    | none=>exact h
    | some a=>cases hp
   ·cases h
  by_cases hm0 : m=0
  ·subst hm0
   subst hsu
   obtain ⟨d,hud,hdk⟩:=row_desc hT hrow
   have hu:=TyOk.desc hT hd rfl
   simp only [DescOk] at hu
   have hk:=hT.sub sT (by rw [hd]; rfl) e (by rw [hd]; simp [AD.subs])
   obtain ⟨i,z,hi,hsz,hby,hz,hzs,hzm⟩:=(hT.ty e hk).info
   obtain ⟨nvs,n1,n2,n3,n4⟩:=acells_sound (P:=P) hr ha hnw (feeds_str hfeed) (fun len hl=>by rw [hm] at hl; cases hl; exact Nat.le_refl _)
   have hml:=alen_sound (P:=P) ha hm x.w
   have hnil : nvs=[]:=List.length_eq_zero_iff.1 (by rw [n3]; simp)
   subst hnil
   have hrun:=run_append_room' (ty:=ty) (base:=none) (n:=0) (cap:=0) hu hud hdk hi hml (by rw [hsz]; exact n4 x.w rfl) (by omega) (w':=x.w) (fun a _=>by simp [storeCells]) (fun _=>rfl)
   simp only [beq_self_eq_true,if_true,Option.some.injEq,Prod.mk.injEq] at h
   obtain ⟨rfl,rfl⟩:=h
   obtain ⟨k1,k2,k3⟩:=hr.pushV (0,0) 0 false .dead x.w (Nat.le_refl _) (fun _ _=>rfl) rfl rfl rfl (fun e=>by cases e) (fun _=>trivial)
   refine ⟨_,x.newV (0,0) 0 false x.w,hrun,k1,k2,k3,?_⟩
   simp only [R]
   have hN : H.length=x.N:=hr.N.symm
   rw [hN]
   exact ⟨⟨Nat.lt_succ_self _,(x.newV_at _ _ _ _).2.1⟩,.inl ⟨trivial,trivial,trivial⟩⟩
  ·have h0 : (m==0)=false:=by simp [hm0]
   rw [h0] at h
   simp only [Bool.false_eq_true,if_false,Option.some.injEq,Prod.mk.injEq] at h
   obtain ⟨rfl,rfl⟩:=h
   refine append_sound hT hr hs ha ?_
   have hl0 : alen (.lit true true [] 0)=some 0:=rfl
   have hc0 : acells H (0 * (T e).size) (.lit true true [] 0)=some []:=by simp [acells]
   simp only [aappend,hd,hrow,hfeed,notStr,and_self,if_true,hl0,hm,hc0,hnw,if_neg hm0,if_pos hfit,Nat.zero_add,List.nil_append]
 rename_i ex nl l off n sz m hm
 split at h
 case h_2=>cases h
 rename_i old new ho hnw
 split at h
 case isFalse=>cases h
 rename_i hc2
 obtain ⟨hfit,rfl⟩:=hc2
 have hs' : R x (.ref false nl l off n (T e).size) su:=by
  simp only [R] at hs ⊢
  refine ⟨hs.1,hs.2.imp id fun ⟨h0,cap,S,o,h1,h2,h3,h4,_,h5⟩=>⟨h0,cap,S,o,h1,h2,h3,h4,(fun e=>by cases e),h5⟩⟩
 by_cases hm0 : m=0
 ·subst hm0
  obtain ⟨d,hud,hdk⟩:=row_desc hT hrow
  have hu:=TyOk.desc hT hd rfl
  simp only [DescOk] at hu
  have hk:=hT.sub sT (by rw [hd]; rfl) e (by rw [hd]; simp [AD.subs])
  obtain ⟨i,z,hi,hsz,hby,hz,hzs,hzm⟩:=(hT.ty e hk).info
  obtain ⟨nvs,n1,n2,n3,n4⟩:=acells_sound (P:=P) hr ha hnw (feeds_str hfeed) (fun len hl=>by rw [hm] at hl; cases hl; exact Nat.le_refl _)
  have hml:=alen_sound (P:=P) ha hm x.w
  have hnil : nvs=[]:=List.length_eq_zero_iff.1 (by rw [n3]; simp)
  subst hnil
  have hnn : new=[]:=by simpa using n1.length.symm
  subst hnn
  have hshape : ∃ base cap,su=.slice base n cap∧n≤cap:=by
   simp only [R] at hs
   obtain ⟨_,⟨_,rfl,rfl⟩|⟨_,cap,S,o,rfl,_,hle,_⟩⟩:=hs
   ·exact ⟨_,_,rfl,Nat.le_refl _⟩
   ·exact ⟨_,_,rfl,hle⟩
  obtain ⟨base,cap,rfl,hcap⟩:=hshape
  have hrun:=run_append_room' (ty:=ty) (base:=base) (n:=n) (cap:=cap) hu hud hdk hi hml (by rw [hsz]; exact n4 x.w rfl) (by omega) (w':=x.w) (fun a _=>by simp [storeCells]) (fun _=>rfl)
  rw [Nat.add_zero] at hrun
  have hlt : l < H.length:=by
   simp only [R] at hs
   rw [← hr.N]; exact hs.1.1
  cases nl with
  | true =>
    simp only [Bool.true_and,beq_self_eq_true,if_true,Option.some.injEq,Prod.mk.injEq] at h
    obtain ⟨rfl,rfl⟩:=h
    obtain ⟨d1,d2⟩:=hr.dead l
    obtain ⟨k1,k2,k3⟩:=d1.pushV (0,0) 0 false .dead x.w (Nat.le_refl _) (fun _ _=>rfl) rfl rfl rfl (fun e=>by cases e) (fun _=>trivial)
    refine ⟨_,x.newV (0,0) 0 false x.w,hrun,d2.trans k1,k2,k3,?_⟩
    simp only [R] at hs' ⊢
    have hN : H.length=x.N:=hr.N.symm
    rw [hN]
    refine ⟨⟨Nat.lt_succ_self _,(x.newV_at _ _ _ _).2.1⟩,?_⟩
    rcases hs'.2 with h|⟨h,_⟩
    ·exact .inl ⟨trivial,h.2.1,by omega⟩
    ·cases h
  | false =>
    simp only [Bool.false_and,Bool.false_eq_true,if_false,Option.some.injEq,Prod.mk.injEq] at h
    obtain ⟨rfl,rfl⟩:=h
    rw [List.append_nil]
    simp only [acells] at ho
    split at ho
    case h_2=>cases ho
    rename_i cs hlc
    split at ho
    case isFalse=>cases ho
    rename_i hoff
    cases ho
    obtain ⟨_,c,t,fz,us,g1,g2,g3,g4,g5,g6⟩:=hr.block l _ hlc
    simp only [R] at hs'
    obtain ⟨⟨hN,_⟩,⟨hn0,_⟩|⟨_,cap',S,o,hs,hoo,hle,hcm,hex,hS,hSc⟩⟩:=hs'
    ·cases hn0
    cases hs
    obtain ⟨r1,r2,r3⟩:=hr.reuse hlc rfl rfl ((x.at_ l).1,(x.at_ l).2+off) rfl (.cells ((cs.drop off).take (n * (T e).size))) rfl x.w rfl (fun _ _=>rfl) (fun _ h=>h) rfl rfl rfl (fun hk=>by
     refine ⟨x.new_ver _ _,c,t,fz,(us.drop off).take (n * (T e).size),by rw [x.new_at]; exact g1,fun i hi=>g2 i hi,RL.keeps hk _ _ ((g3.drop off).take _),?_,fun i u hi'=>?_,fun a ha=>g6 a (List.mem_of_mem_drop (List.mem_of_mem_take ha))⟩
     ·rw [x.new_at]
      have:=g3.length
      simp only [List.length_take,List.length_drop]
      show (x.at_ l).2+off+_≤_
      omega
     ·rw [x.new_at]
      show c[(x.at_ l).2+off+i]?=some u
      rw [List.getElem?_take] at hi'
      split at hi'
      ·rw [List.getElem?_drop] at hi'
       rw [Nat.add_assoc]
       exact g5 _ u hi'
      ·cases hi')
    refine ⟨_,x.new ((x.at_ l).1,(x.at_ l).2+off) x.w,hrun,r1,r2,r3,?_⟩
    simp only [R]
    rw [← hr.N,x.new_at]
    exact ⟨⟨Nat.lt_succ_self _,x.new_ver _ _⟩,.inr ⟨trivial,cap,S,o,rfl,hoo,hle,hcm,by simp,hS,by show (x.at_ l).2+off+0+_≤_; omega⟩⟩
 ·have h0 : (nl&&m==0)=false:=by simp [hm0]
  rw [h0] at h
  simp only [Bool.false_eq_true,if_false,Option.some.injEq,Prod.mk.injEq] at h
  obtain ⟨rfl,rfl⟩:=h
  refine append_sound hT hr hs' ha ?_
  have ho' : acells H (n * (T e).size) (.ref false nl l off n (T e).size)=some old:=by
   cases nl<;>simpa only [acells] using ho
  have hl0 : alen (.ref false nl l off n (T e).size)=some n:=rfl
  simp only [aappend,hd,hrow,hfeed,notStr,and_self,if_true,hl0,hm,ho',hnw,if_neg hm0,if_pos hfit]
theorem appendF_sound {x : Cx} {H H' : AH} (hr : Rel x H) {own : Bool} {sT xT ty : TypeId} {s a v : AV} {su au : Value} (hs : R x s su) (ha : R x a au) (h : aappendF T H own sT xT s a=some (v,H')) :
  OutV x H H' v ((Builtin.append_ #[sT,xT] ty #[su,au]).run P x.w):=by
 unfold aappendF at h
 split at h
 case h_2=>cases h
 rename_i e hd
 split at h
 case isFalse=>cases h
 rename_i hc
 obtain ⟨hrow,hfeed⟩:=hc
 split at h
 case h_2=>cases h
 rename_i nl cs n m hm
 split at h
 case h_2=>cases h
 rename_i new hnw
 split at h
 case isFalse=>cases h
 rename_i hc2
 obtain ⟨hfit,hcl⟩:=hc2
 obtain ⟨d,hud,hdk⟩:=row_desc hT hrow
 have hu:=TyOk.desc hT hd rfl
 simp only [DescOk] at hu
 have hk:=hT.sub sT (by rw [hd]; rfl) e (by rw [hd]; simp [AD.subs])
 obtain ⟨i,z,hi,hsz,hby,hz,hzs,hzm⟩:=(hT.ty e hk).info
 have oc : acells H (n * (T e).size) (.lit nl true cs n)=some cs:=by simp [acells,hcl,List.take_of_length_le]
 obtain ⟨ovs,o1,o2,o3,o4⟩:=acells_sound (P:=P) hr hs oc (fun q e'=>by cases e') (fun len hl=>by cases hl; exact Nat.le_refl _)
 obtain ⟨nvs,n1,n2,n3,n4⟩:=acells_sound (P:=P) hr ha hnw (feeds_str hfeed) (fun len hl=>by rw [hm] at hl; cases hl; exact Nat.le_refl _)
 have hml:=alen_sound (P:=P) ha hm x.w
 have hnl : new.length=m * (T e).size:=by rw [← n1.length,n3]
 have hlen : (cs++new).length=(n+m) * (T e).size:=by rw [List.length_append,hcl,hnl,Nat.add_mul]
 have hcells : ∀ a∈cs++new,a.isCell=true:=fun a ha=>(List.mem_append.1 ha).elim (o2 a) (n2 a)
 have hshape : ∃ base,su=.slice base n n:=by
  have hs':=hs
  simp only [R] at hs'
  rcases hs' with ⟨⟨p,hpn,rfl⟩,_,rfl⟩|⟨_,b,o,cap,vs,rfl,hle,_,hex,_⟩
  ·exact ⟨_,rfl⟩
  ·rw [hex trivial]; exact ⟨_,rfl⟩
 obtain ⟨base,rfl⟩:=hshape
 by_cases hm0 : m=0
 ·subst hm0
  have hnil : nvs=[]:=List.length_eq_zero_iff.1 (by rw [n3]; simp)
  have hnn : new=[]:=by rw [hnil] at n1; simpa using n1.length.symm
  subst hnil hnn
  have hrun:=run_append_room' (ty:=ty) (base:=base) (n:=n) (cap:=n) hu hud hdk hi hml (by rw [hsz]; exact n4 x.w rfl) (by omega) (w':=x.w) (fun a _=>by simp [storeCells]) (fun _=>rfl)
  rw [Nat.add_zero] at hrun
  cases own with
  | false =>
    cases h
    have : (nl&&(0 : Nat)==0)=nl:=by simp
    rw [this]
    simp only [List.append_nil,Nat.add_zero]
    exact OutV.pure hr hs hrun
  | true =>
    cases h
    have : (nl&&(0 : Nat)==0)=nl:=by simp
    rw [this]
    simp only [List.append_nil,Nat.add_zero]
    obtain ⟨k1,k2,k3⟩:=hr.pushV (0,0) 1 false (.room 1 false) x.w (Nat.le_refl _) (fun _ _=>rfl) rfl rfl rfl (fun e=>by cases e) (fun _=>⟨(x.newV_at _ _ _ _).2.1,Nat.one_pos,(x.newV_at _ _ _ _).2.2,fun e=>by cases e⟩)
    have hr0 : (!((0 : Nat)==0))=false:=rfl
    rw [hr0]
    refine ⟨_,x.newV (0,0) 1 false x.w,hrun,k1,k2,k3,?_⟩
    have h9:=R.keeps k3 _ _ hs
    simp only [R] at h9 ⊢
    refine ⟨⟨by rw [← hr.N]; exact Nat.lt_succ_self _,Nat.one_pos,by rw [← hr.N,(x.newV_at _ _ _ _).2.1]; exact Nat.le_refl _,hcl⟩,?_⟩
    rcases h9 with h|⟨h0,b,o,cap,vs,h1,h2,h3,h4,h5,h6,h7,h8⟩
    ·exact .inl h
    ·exact .inr ⟨h0,b,o,cap,vs,h1,h2,h3,h5,h6,h7,h8,fun _=>.inl (h4 trivial)⟩
 ·obtain ⟨g,c,hrun,c1,c2,c3,c4⟩:=grow_run hT (ty:=ty) (base:=base) (cap:=n) hd hrow hml n3 o3 n4 o4 hfit (by omega)
  obtain ⟨d1,d2,d3,d4⟩:=drew_alloc (w:=x.w) (o:=.cells c e)
  have hnl0 : (nl&&m==0)=false:=by simp [hm0]
  have hex0 : (m==0)=false:=by simp [hm0]
  have hec : (n+m) * (T e).size≤c.size:=by rw [c3]; exact Nat.mul_le_mul_right _ c1
  let Q : Nat→Nat→Prop:=fun k q=>k=x.w.heap.size∧q=(n+m) * (T e).size
  have hcell : ∀ (j : Nat) (u : Value),(ovs++nvs)[j]?=some u→(x.w.drew.alloc (.cells c e)).cell? ⟨x.w.heap.size,0+j,none⟩=some u:=fun j u hj=>by
   rw [cell_of_row _ _ _ _ _ _ d3,Nat.zero_add]
   exact c4 j u hj
  cases own with
  | false =>
    simp only [Bool.false_eq_true,if_false,Option.some.injEq,Prod.mk.injEq] at h
    obtain ⟨rfl,rfl⟩:=h
    rw [hnl0,hex0]
    obtain ⟨k1,k2,k3⟩:=hr.worldly (x.w.drew.alloc (.cells c e)) d1 d2 rfl rfl rfl
    have hrel:=k2.more (Q:=Q) (fun k q hq=>by rw [hq.1]; show _ < (x.w.drew.alloc (.cells c e)).heap.size; omega) (fun k q hq j b hb hbl he=>by
     have:=Own.lt hr ⟨j,⟨b,hb,hbl⟩,rfl⟩
     rw [hq.1] at he
     simp only at he
     omega)
    have hkeep:=k3.trans (Cx.more_keeps _ Q)
    exact ⟨_,_,hrun,k1.more (Q:=Q) (fun k q hq=>.inr (by rw [hq.1]; exact Nat.le_refl _)),hrel,hkeep,R.frozen c1 c2 (fun e=>by cases e) (RL.keeps hkeep _ _ (o1.append n1)) hcells (.inr (.of (.inr ⟨rfl,by rw [hlen,Nat.zero_add]⟩))) hcell⟩
  | true =>
    simp only [if_true,Option.some.injEq,Prod.mk.injEq] at h
    obtain ⟨rfl,rfl⟩:=h
    rw [hnl0,hex0]
    obtain ⟨k1,k2,k3⟩:=hr.pushV (x.w.heap.size,(n+m) * (T e).size) 1 true (.room 1 true) (x.w.drew.alloc (.cells c e)) d1 d2 rfl rfl rfl (fun _=>Nat.le_refl _) (fun _=>⟨(x.newV_at _ _ _ _).2.1,Nat.one_pos,(x.newV_at _ _ _ _).2.2,fun _=>by rw [(x.newV_at _ _ _ _).1]; exact ⟨c,e,(0,0),d3,by simp,hec⟩⟩)
    have hrel:=k2.more (Q:=Q) (fun k q hq=>by rw [hq.1]; show _ < (x.w.drew.alloc (.cells c e)).heap.size; omega) (fun k q hq j b hb hbl he=>by
     rcases Nat.lt_trichotomy j H.length with h'|h'|h'
     ·rw [getElem?_app_lt h'] at hb
      rw [(x.newV_old _ _ _ _ (hr.lt hb)).1,hq.1] at he
      have:=Own.lt hr ⟨j,⟨b,hb,hbl⟩,rfl⟩
      omega
     ·subst h'
      have : b=.room 1 true:=by simpa using hb.symm
      subst this
      rw [← hr.N,(x.newV_at _ _ _ _).1,hq.2]
      exact ⟨rfl,Nat.le_refl _⟩
     ·rw [List.getElem?_eq_none (by simp; omega)] at hb
      cases hb)
    have hkeep:=k3.trans (Cx.more_keeps _ Q)
    obtain ⟨w1,w2,w3⟩:=x.newV_at (x.w.heap.size,(n+m) * (T e).size) 1 true (x.w.drew.alloc (.cells c e))
    refine ⟨_,_,hrun,k1.more (Q:=Q) (fun k q hq=>.inr (by rw [hq.1]; exact Nat.le_refl _)),hrel,hkeep,?_⟩
    simp only [R]
    have hN : H.length=x.N:=hr.N.symm
    rw [hN]
    refine ⟨⟨Nat.lt_succ_self _,Nat.one_pos,?_,hlen⟩,.inr ⟨trivial,x.w.heap.size,0,g,ovs++nvs,rfl,c1,c2,RL.keeps hkeep _ _ (o1.append n1),hcells,.inr (.of (.inr ⟨rfl,by rw [hlen,Nat.zero_add]⟩)),hcell,fun _=>.inr ⟨?_,?_,g * (T e).size,?_,by omega⟩⟩⟩
    ·exact Nat.le_of_eq w2.symm
    ·exact w3
    ·refine w1.trans ?_
     rw [hlen,Nat.zero_add]
    ·show bsz (x.w.drew.alloc (.cells c e)) _=_
     rw [bsz_of d3,c3]
end
theorem Rel.ownRow {x : Cx} {H : AH} (hr : Rel x H) {cs : List AV} {vs : List Value} (hl : RL x cs vs) (hc : ∀ a∈cs,a.isCell=true) {c : Array Value} {t : TypeId} {fz : Nat×Nat} (hfz : ∀ i,i < c.size→¬ (fz.1≤i∧i < fz.2))
  (hcv : ∀ (i : Nat) (u : Value),vs[i]?=some u→c[i]?=some u) {n cap sz : Nat} (hlen : cs.length=n * sz) (h1 : n≤cap) (h2 : cap≤maxLen) (hsz : cap * sz≤c.size) {w' : World} (hw : w'.heap=x.w.heap.push (.cells c t fz)) (hos : w'.os=x.w.os) (htp : w'.tape=x.w.tape) (hout : w'.output=x.w.output) :
  ∃ y : Cx,y.w=w'∧Mv x.N x H y (H++[.room 1 true])∧Rel y (H++[.room 1 true])∧Keeps x y∧R y (.own H.length 1 false cs n sz) (.slice (some ⟨x.w.heap.size,0,none⟩) n cap):=by
 have d1 : x.w.heap.size≤w'.heap.size:=by rw [hw]; simp
 have d2 : ∀ k,k < x.w.heap.size→w'.heap[k]?=x.w.heap[k]?:=fun k hk=>by rw [hw,Array.getElem?_push,if_neg (by omega)]
 have d3 : w'.heap[x.w.heap.size]?=some (.cells c t fz):=by rw [hw]; simp
 have d4 : w'.heap.size=x.w.heap.size+1:=by rw [hw]; simp
 have hle : cs.length≤c.size:=by rw [hlen]; exact Nat.le_trans (Nat.mul_le_mul_right _ h1) hsz
 obtain ⟨w1,w2,w3⟩:=x.newV_at (x.w.heap.size,cs.length) 1 true w'
 obtain ⟨k1,k2,k3⟩:=hr.pushV (x.w.heap.size,cs.length) 1 true (.room 1 true) w' d1 d2 hos htp hout (fun _=>Nat.le_refl _) (fun _=>⟨w2,Nat.one_pos,w3,fun _=>by rw [w1]; exact ⟨c,t,fz,d3,hfz,hle⟩⟩)
 let Q : Nat→Nat→Prop:=fun k q=>k=x.w.heap.size∧q=cs.length
 have hrel:=k2.more (Q:=Q) (fun k q hq=>by rw [hq.1]; show _ < w'.heap.size; omega) (fun k q hq j b hb hbl he=>by
  rcases Nat.lt_trichotomy j H.length with h'|h'|h'
  ·rw [getElem?_app_lt h'] at hb
   rw [(x.newV_old _ _ _ _ (hr.lt hb)).1,hq.1] at he
   have:=Own.lt hr ⟨j,⟨b,hb,hbl⟩,rfl⟩
   omega
  ·subst h'
   have : b=.room 1 true:=by simpa using hb.symm
   subst this
   rw [← hr.N,w1,hq.2]
   exact ⟨rfl,Nat.le_refl _⟩
  ·rw [List.getElem?_eq_none (by simp; omega)] at hb
   cases hb)
 have hkeep:=k3.trans (Cx.more_keeps _ Q)
 refine ⟨_,rfl,k1.more (Q:=Q) (fun k q hq=>.inr (by rw [hq.1]; exact Nat.le_refl _)),hrel,hkeep,?_⟩
 simp only [R]
 have hN : H.length=x.N:=hr.N.symm
 rw [hN]
 refine ⟨⟨Nat.lt_succ_self _,Nat.one_pos,Nat.le_of_eq w2.symm,hlen⟩,.inr ⟨trivial,x.w.heap.size,0,cap,vs,rfl,h1,h2,RL.keeps hkeep _ _ hl,hc,.inr (.of (.inr ⟨rfl,by rw [Nat.zero_add]⟩)),fun i u hu=>?_,fun _=>.inr ⟨w3,w1.trans (by rw [Nat.zero_add]),c.size,bsz_of d3,by omega⟩⟩⟩
 show w'.cell? _=_
 rw [cell_of_row _ _ _ _ _ _ d3,Nat.zero_add]
 exact hcv i u hu
end Go.Abs
namespace Go.Abs
theorem set_self {α : Type} {H : List α} {l : Nat} {v : α} (h : H[l]?=some v) : H.set l v=H:=by
 apply List.ext_getElem?
 intro i
 by_cases e : l=i
 ·subst e
  obtain ⟨h1,h2⟩:=List.getElem?_eq_some_iff.1 h
  rw [List.getElem?_set_self h1,h]
 ·rw [List.getElem?_set_ne e]
section
variable {P : Program} {T : TT} (hT : TyOk P T)
include hT
theorem copy_sound {x : Cx} {H H' : AH} (hr : Rel x H) {dT xT ty : TypeId} {d a v : AV} {du au : Value} (hd : R x d du) (ha : R x a au) (h : acopy T H dT d a=some (v,H')) :
  OutV x H H' v ((Builtin.copy_ #[dT,xT] ty #[du,au]).run P x.w):=by
 unfold acopy at h
 split at h
 case h_2=>cases h
 rename_i e hdt
 split at h
 case isFalse=>cases h
 rename_i hc
 obtain ⟨hfeed,hns⟩:=hc
 have hu:=TyOk.desc hT hdt rfl
 simp only [DescOk] at hu
 have hk:=hT.sub dT (by rw [hdt]; rfl) e (by rw [hdt]; simp [AD.subs])
 split at h
 case h_2=>cases h
 rename_i n m hn hm
 split at h
 case h_2=>cases h
 rename_i new hnw
 obtain ⟨nvs,n1,n2,n3,n4⟩:=acells_sound (P:=P) hr ha hnw (feeds_str hfeed) (fun len hl=>by rw [hm] at hl; cases hl; exact Nat.min_le_left _ _)
 have hml:=alen_sound (P:=P) ha hm x.w
 have n4':=n4 x.w rfl
 have hmin : Nat.min m n=min m n:=rfl
 split at h
 ·rename_i ex l off len sz
  split at h
  case isFalse=>cases h
  rename_i hsz
  subst hsz
  simp only [Option.map_eq_some_iff] at h
  obtain ⟨H1,hw,h⟩:=h
  cases h
  simp only [alen,Option.some.injEq] at hn
  subst hn
  have hd0:=hd
  simp only [R] at hd
  obtain ⟨_,⟨hn0,_⟩|⟨_,cap,S,o,rfl,ho,hle,hcm,hex,hS,hSc⟩⟩:=hd
  ·cases hn0
  by_cases h0 : min m len=0
  ·
   have hnil : nvs=[]:=List.length_eq_zero_iff.1 (by rw [n3,h0]; simp)
   subst hnil
   have hnn : new=[]:=by simpa using n1.length.symm
   subst hnn
   have hH : H'=H:=by
    unfold awrite at hw
    split at hw
    ·rename_i cs hlc
     split at hw
     ·cases hw
      have : splice cs off []=cs:=by simp [splice]
      rw [this,set_self hlc]
     ·cases hw
    ·cases hw
   subst hH
   refine OutV.pure hr rfl ?_
   simp [Builtin.copy_,run_underlying hu,hml,hmin,TyOk.size hT hk,h0,goInt]
   rw [h0] at n4'
   simp [n4',storeCells]
  ·have ho':=ho (by omega)
   subst ho'
   obtain ⟨w',g1,g2,g3,g4⟩:=write_sound hr n1 n2 hw P
   refine ⟨_,_,?_,g2,g3,g4,rfl⟩
   simp [Builtin.copy_,run_underlying hu,hml,hmin,TyOk.size hT hk,n4',g1,goInt]
 ·rename_i hnr
  split at h
  case isFalse=>cases h
  rename_i h0
  cases h
  have hnil : nvs=[]:=List.length_eq_zero_iff.1 (by rw [n3,h0]; simp)
  subst hnil
  refine OutV.pure hr rfl ?_
  have hshape : ∃ base cap,du=.slice base n cap:=by
   cases d<;>simp only [alen] at hn<;>first|(cases hn; done)|skip
   ·cases hns
   ·cases hn
    simp only [R] at hd
    rcases hd with ⟨⟨p,hpn,rfl⟩,_,rfl⟩|⟨_,b,o,cap,vs,rfl,hle,_⟩
    ·exact ⟨_,_,rfl⟩
    ·exact ⟨_,_,rfl⟩
   ·cases hn
    simp only [R] at hd
    rcases hd with ⟨_,⟨_,rfl,rfl⟩|⟨_,cap,S,o,rfl,_⟩⟩
    ·exact ⟨_,_,rfl⟩
    ·exact ⟨_,_,rfl⟩
   ·cases hn
    have hd:=hd.weak
    simp only [AV.weak,R] at hd
    rcases hd with ⟨⟨p,hpn,rfl⟩,_,rfl⟩|⟨_,b,o,cap,vs,rfl,hle,_⟩
    ·exact ⟨_,_,rfl⟩
    ·exact ⟨_,_,rfl⟩
  obtain ⟨base,cap,rfl⟩:=hshape
  rw [h0] at n4'
  cases base<;>simp [Builtin.copy_,run_underlying hu,hml,hmin,TyOk.size hT hk,h0,storeCells,goInt,n4']
end
end Go.Abs
namespace Go.Abs
theorem bytes_back {s : List UInt8} : ∀ {cs : List AV},cs.mapM byteOf?=some s→cs.length=s.length∧∀ {x : Cx} {vs : List Value},RL x cs vs→∃ ns : List Int,vs=ns.map (Value.int .u8)∧s=ns.map fun n=>UInt8.ofNat n.toNat:=by
 induction s with
 | nil =>
   intro cs h
   cases cs with
   | nil=>exact ⟨rfl,fun hl=>⟨[],by simpa [RL] using hl,rfl⟩⟩
   | cons c cs=>simp [List.mapM_cons,Option.bind_eq_some_iff] at h
 | cons b s ih =>
   intro cs h
   cases cs with
   | nil=>simp at h
   | cons c cs =>
     simp only [List.mapM_cons,Option.bind_eq_bind,Option.bind_eq_some_iff,Option.pure_def,Option.some.injEq,List.cons.injEq] at h
     obtain ⟨b',hb,s',hs,rfl,rfl⟩:=h
     obtain ⟨h1,h2⟩:=ih hs
     refine ⟨by simp [h1],fun {x vs} hl=>?_⟩
     simp only [RL] at hl
     obtain ⟨v,r,rfl,hv,hr⟩:=hl
     obtain ⟨ns,rfl,rfl⟩:=h2 hr
     unfold byteOf? at hb
     split at hb
     ·rename_i n
      cases hb
      simp only [R] at hv
      subst hv
      exact ⟨n::ns,rfl,rfl⟩
     ·cases hb
theorem bytesToString_run {P : Program} {w : World} {a : Addr} {cap : Nat} (ns : List Int) (h : (loadCells a ns.length).run P w=.ok (ns.map (Value.int .u8)).toArray w) :
  (Conv.bytesToString (.slice (some a) ns.length cap)).run P w=.ok (.string ⟨(ns.map fun n=>UInt8.ofNat n.toNat).toArray⟩) w:=by
 unfold Conv.bytesToString
 simp only [Sem.run_bind,h,Result.andThen_ok]
 have key : ∀ (ns : List Int) (acc : ByteArray),List.foldl (fun (b : ByteArray) (a : Int)=>b.push (UInt8.ofNat a.toNat)) acc ns=⟨acc.data++(ns.map fun n=>UInt8.ofNat n.toNat).toArray⟩:=by
  intro ns
  induction ns with
  | nil=>intro acc; simp
  | cons n ns ih =>
    intro acc
    simp only [List.map_cons,List.foldl_cons,ih]
    congr 1
    apply Array.ext'
    simp [ByteArray.push]
 rw [← Array.forIn_toList]
 simp [key]
section
variable {P : Program} {T : TT} (hT : TyOk P T)
include hT
theorem zeros_known {x : Cx} {e : TypeId} (hk : (T e).d.known=true) (n : Nat) (w : World) : ∃ z : Array Value,(n * (T e).size≠0→(do pure (← zeroValue e).cells : Sem (Array Value)).run P w=.ok z w)∧z.size=(T e).size ∧
  RL x (List.replicate n (T e).zero).flatten ((Array.range (n * (T e).size)).map (z[· % z.size]!)).toList∧(∀ a∈(List.replicate n (T e).zero).flatten,a.isCell=true):=by
 obtain ⟨i,z,hi,hs,hb,hz,hzs,hm⟩:=(hT.ty e hk).info
 have hc:=RL.closed (x:=x) hm
 refine ⟨z.cells,fun _=>by simp [zeroValue,typeInfo,hi,hz],by rw [hzs,hs],?_,fun a ha=>?_⟩
 ·have:=zeros_row hc.1 n
  rwa [hzs,hs] at this ⊢
 ·obtain ⟨l,hl,ha⟩:=List.mem_flatten.1 ha
  rw [(List.mem_replicate.1 hl).2] at ha
  exact hc.2 a ha
theorem make_sound {x : Cx} {H H' : AH} (hr : Rel x H) {t : TypeId} {n c v : AV} {nu cu : Value} (hn : R x n nu) (hc : R x c cu) (h : amake T H t n c=some (v,H')) : OutV x H H' v ((Instr.makeSlice t nu cu).run P x.w):=by
 unfold amake at h
 split at h
 case h_2=>cases h
 rename_i e n c hd
 split at h
 case isFalse=>cases h
 rename_i hb
 obtain ⟨h0,h1,h2,h3,h4⟩:=hb
 cases h
 simp only [R] at hn hc
 subst hn hc
 have hu:=TyOk.desc hT hd rfl
 simp only [DescOk] at hu
 have hk:=hT.sub t (by rw [hd]; rfl) e (by rw [hd]; simp [AD.subs])
 obtain ⟨i,z,hi,hs,hby,hz,hzs,hm⟩:=(hT.ty e hk).info
 have hcl:=RL.closed (x:=x) hm
 have hcells : ((Array.range (c.toNat * (T e).size)).map (fun k=>z.cells[k % z.cells.size]!)).size=c.toNat * (T e).size:=by simp
 have hrow:=hr.row (cs:=(List.replicate n.toNat (T e).zero).flatten) (vs:=((Array.range (n.toNat * (T e).size)).map (fun k=>z.cells[k % z.cells.size]!)).toList)
  (by have:=zeros_row hcl.1 n.toNat; rw [hzs,hs] at this ⊢; exact this) (fun a ha=>by
   obtain ⟨l,hl,ha⟩:=List.mem_flatten.1 ha
   rw [(List.mem_replicate.1 hl).2] at ha
   exact hcl.2 a ha) ((Array.range (c.toNat * (T e).size)).map (fun k=>z.cells[k % z.cells.size]!)) e (0,0) (by simp) (fun j u hj=>by
   have hlt:=(List.getElem?_eq_some_iff.1 hj).1
   simp at hlt
   have hle : n.toNat * (T e).size≤c.toNat * (T e).size:=Nat.mul_le_mul_right _ (by omega)
   simp only [Array.toList_map,List.getElem?_map,Array.getElem?_toList,Array.getElem?_map,Array.getElem?_range] at hj ⊢
   rw [if_pos hlt] at hj
   rw [if_pos (by omega)]
   exact hj) (by
   have:=(RL.length (zeros_row hcl.1 n.toNat)).symm
   rw [this]
   simp [hzs,hs]
   exact Nat.mul_le_mul_right _ (by omega)) (x.w.alloc (.cells ((Array.range (c.toNat * (T e).size)).map (fun k=>z.cells[k % z.cells.size]!)) e)) rfl rfl rfl rfl
 have hex : (n==c)=true→c.toNat=n.toNat:=fun he=>by
  have : n=c:=by simpa using he
  omega
 refine ⟨_,_,?_,hrow.1,hrow.2.1,hrow.2.2,row_ref (cap:=c.toNat) hr.N rfl (by omega) (by omega) hex (by rw [hcells]; exact Nat.le_refl _)⟩
 have hbt : (i.bytes : Int) * c≤281474976710656:=by
  rw [hby,Int.mul_comm]
  omega
 have hr':=run_make (P:=P) x.w t e i z hu hi hz .i64 .i64 n c h0 h1 hbt (by simp only [maxLen] at h3; omega)
 rw [hs] at hr'
 exact hr'
theorem makeF_sound {x : Cx} {H H' : AH} (hr : Rel x H) {t : TypeId} {n c v : AV} {nu cu : Value} (hn : R x n nu) (hc : R x c cu) (h : amakeF T H t n c=some (v,H')) : OutV x H H' v ((Instr.makeSlice t nu cu).run P x.w):=by
 unfold amakeF at h
 split at h
 case h_2=>cases h
 rename_i e n c hd
 split at h
 case isFalse=>cases h
 rename_i hb
 obtain ⟨h0,h1,h2,h3,h4⟩:=hb
 cases h
 simp only [R] at hn hc
 subst hn hc
 have hu:=TyOk.desc hT hd rfl
 simp only [DescOk] at hu
 have hk:=hT.sub t (by rw [hd]; rfl) e (by rw [hd]; simp [AD.subs])
 obtain ⟨i,z,hi,hs,hby,hz,hzs,hm⟩:=(hT.ty e hk).info
 have hcl:=RL.closed (x:=x) hm
 have hcells : ((Array.range (c.toNat * (T e).size)).map (fun k=>z.cells[k % z.cells.size]!)).size=c.toNat * (T e).size:=by simp
 have hrow:=hr.ownRow (cs:=(List.replicate n.toNat (T e).zero).flatten) (vs:=((Array.range (n.toNat * (T e).size)).map (fun k=>z.cells[k % z.cells.size]!)).toList)
  (by have:=zeros_row hcl.1 n.toNat; rw [hzs,hs] at this ⊢; exact this) (fun a ha=>by
   obtain ⟨l,hl,ha⟩:=List.mem_flatten.1 ha
   rw [(List.mem_replicate.1 hl).2] at ha
   exact hcl.2 a ha) (c:=(Array.range (c.toNat * (T e).size)).map (fun k=>z.cells[k % z.cells.size]!)) (t:=e) (fz:=(0,0)) (by simp) (fun j u hj=>by
   have hlt:=(List.getElem?_eq_some_iff.1 hj).1
   simp at hlt
   have hle : n.toNat * (T e).size≤c.toNat * (T e).size:=Nat.mul_le_mul_right _ (by omega)
   simp only [Array.toList_map,List.getElem?_map,Array.getElem?_toList,Array.getElem?_map,Array.getElem?_range] at hj ⊢
   rw [if_pos hlt] at hj
   rw [if_pos (by omega)]
   exact hj) (n:=n.toNat) (cap:=c.toNat) (sz:=(T e).size) (by
   have:=(RL.length (zeros_row hcl.1 n.toNat)).symm
   rw [this]
   simp [hzs,hs]) (by omega) (by omega) (by rw [hcells]; exact Nat.le_refl _) (w':=x.w.alloc (.cells ((Array.range (c.toNat * (T e).size)).map (fun k=>z.cells[k % z.cells.size]!)) e)) rfl rfl rfl rfl
 obtain ⟨y,ey,y1,y2,y3,y4⟩:=hrow
 refine ⟨_,y,?_,y1,y2,y3,y4⟩
 rw [ey]
 have hbt : (i.bytes : Int) * c≤281474976710656:=by
  rw [hby,Int.mul_comm]
  omega
 have hr':=run_make (P:=P) x.w t e i z hu hi hz .i64 .i64 n c h0 h1 hbt (by simp only [maxLen] at h3; omega)
 rw [hs] at hr'
 exact hr'
omit hT in
theorem parts_sound {G : Nat→Option (List AV)} {x : Cx} {fr : List AV} {a : Act} (hG : GOk G x) (hl : RL x fr a.tmps.toList) {parts : Array (Nat×Operand)} {ps : List (Nat×AV)} (h : (parts.toList.mapM fun p=>(aval G fr p.2).map fun v=>(p.1,v))=some ps) :
  ps.length=(parts.map fun (p : Nat×Operand)=>(p.1,a.eval p.2)).toList.length∧∀ (j : Nat) (p : Nat×AV) (q : Nat×Value),ps[j]?=some p→(parts.map fun (p : Nat×Operand)=>(p.1,a.eval p.2)).toList[j]?=some q→p.1=q.1∧R x p.2 q.2:=by
 simp only [Array.toList_map]
 generalize parts.toList=l at h
 induction l generalizing ps with
 | nil=>simp at h; subst h; simp
 | cons p l ih =>
   simp only [List.mapM_cons,Option.bind_eq_bind,Option.bind_eq_some_iff,Option.map_eq_some_iff,Option.pure_def,Option.some.injEq] at h
   obtain ⟨q,⟨v,hv,rfl⟩,r,hr,rfl⟩:=h
   obtain ⟨h1,h2⟩:=ih hr
   refine ⟨by simp [h1],fun j p' q' hp hq=>?_⟩
   cases j with
   | zero =>
     simp at hp hq
     subst hp hq
     exact ⟨rfl,aval_sound hG hl hv⟩
   | succ j=>exact h2 j p' q' (by simpa using hp) (by simpa using hq)
theorem build_struct_sound {x : Cx} {t : TypeId} {fs : List (Bool×Nat×TypeId)} (hd : (T t).d=.struct fs) {ps : List (Nat×AV)} {qs : Array (Nat×Value)} {cs : List AV} (hn : ps.length=qs.toList.length)
  (hq : ∀ (j : Nat) (p : Nat×AV) (q : Nat×Value),ps[j]?=some p→qs.toList[j]?=some q→p.1=q.1∧R x p.2 q.2)
  (h : afill (fun i=>(fs[i]?).map fun f=>(f.2.1,(T f.2.2).size)) (T t).zero ps=some cs) : ∃ u,(Instr.build t qs).run P x.w=.ok u x.w∧R x (.agg cs) u:=by
 have hu:=TyOk.desc hT hd rfl
 simp only [DescOk] at hu
 obtain ⟨fields,hu,rfl⟩:=hu
 obtain ⟨it,z,hit,hs,hb,hz,hzs,hzm⟩:=(hT.ty t (by rw [hd]; rfl)).info
 have hl:=RL.closed (x:=x) hzm
 have hall : ∀ f∈fields.toList,(T f.type).d.known=true:=fun f hf=>hT.sub t (by rw [hd]; rfl) f.type (by
  rw [hd]
  simp only [AD.subs,List.map_map,List.mem_map,Function.comp]
  exact ⟨f,hf,rfl⟩)
 have hpl : ∀ l : List Field,(∀ f∈l,(T f.type).d.known=true)→l.mapM (fun f=>(P.info? f.type).map fun i=>(f.offset,i.size))=some (l.map fun f=>(f.offset,(T f.type).size)):=by
  intro l
  induction l with
  | nil=>intro _; simp
  | cons f l ih =>
    intro h
    obtain ⟨i,z,hi,hs,_⟩:=(hT.ty _ (h f (by simp))).info
    simp [List.mapM_cons,hi,hs,ih (fun g hg=>h g (by simp [hg]))]
 obtain ⟨c',g1,g2,g3⟩:=fill_sound (x:=x) ps qs.toList (T t).zero z.cells cs hl.1 hl.2 hn hq h
 refine ⟨.agg c',run_build (P:=P) x.w t qs c' ?_,by simp only [R]; exact ⟨g3,c'.toList,by simp,g2⟩⟩
 have hfn : (fun i : Nat=>((fields.toList.map fun f=>(f.name == "_",f.offset,f.type))[i]?).map fun f : Bool×Nat×TypeId=>(f.2.1,(T f.2.2).size))=fun i : Nat=>((fields.toList.map fun f=>(f.offset,(T f.type).size)).toArray)[i]?:=by
  funext i
  simp [Option.map_map,Function.comp_def]
 rw [hfn] at g1
 simp only [Program.built,hit,hu,hz,hpl _ hall]
 exact g1
theorem build_array_sound {x : Cx} {t e : TypeId} {n : Nat} (hd : (T t).d=.arr n e) {ps : List (Nat×AV)} {qs : Array (Nat×Value)} {cs : List AV} (hn : ps.length=qs.toList.length)
  (hq : ∀ (j : Nat) (p : Nat×AV) (q : Nat×Value),ps[j]?=some p→qs.toList[j]?=some q→p.1=q.1∧R x p.2 q.2)
  (h : afill (fun i=>some (i * (T e).size,(T e).size)) (T t).zero ps=some cs) : ∃ u,(Instr.build t qs).run P x.w=.ok u x.w∧R x (.agg cs) u:=by
 have hu:=TyOk.desc hT hd rfl
 simp only [DescOk] at hu
 have hk:=hT.sub t (by rw [hd]; rfl) e (by rw [hd]; simp [AD.subs])
 obtain ⟨it,z,hit,hs,hb,hz,hzs,hzm⟩:=(hT.ty t (by rw [hd]; rfl)).info
 obtain ⟨ie,_,hie,hse,_⟩:=(hT.ty e hk).info
 have hl:=RL.closed (x:=x) hzm
 obtain ⟨c',g1,g2,g3⟩:=fill_sound (x:=x) ps qs.toList (T t).zero z.cells cs hl.1 hl.2 hn hq h
 refine ⟨.agg c',run_build (P:=P) x.w t qs c' ?_,by simp only [R]; exact ⟨g3,c'.toList,by simp,g2⟩⟩
 simp only [Program.built,hit,hu,hz,hie,hse]
 exact g1
theorem buildSlice_run {x : Cx} {t e : TypeId} {n : Nat} (hd : (T t).d=.slice e) (hb : n * (T e).size≤16777216) (_hb2 : n≤16777216) {ps : List (Nat×AV)} {qs : Array (Nat×Value)} {cs : List AV} (hn : ps.length=qs.toList.length)
  (hq : ∀ (j : Nat) (p : Nat×AV) (q : Nat×Value),ps[j]?=some p→qs.toList[j]?=some q→p.1=q.1∧R x p.2 q.2)
  (h : afill (fun i=>some (i * (T e).size,(T e).size)) (List.replicate n (T e).zero).flatten ps=some cs) : ∃ c',(Instr.buildSlice t n qs).run P x.w=.ok (.slice (some ⟨x.w.heap.size,0,none⟩) n n) (x.w.alloc (.cells c' e))∧RL x cs c'.toList∧(∀ a∈cs,a.isCell=true)∧c'.size=n * (T e).size:=by
 have hu:=TyOk.desc hT hd rfl
 simp only [DescOk] at hu
 have hk:=hT.sub t (by rw [hd]; rfl) e (by rw [hd]; simp [AD.subs])
 obtain ⟨z,g1,g2,g3,g4⟩:=zeros_known hT (x:=x) hk n x.w
 rw [g2] at g3
 obtain ⟨c',k1,k2,k3⟩:=fill_sound (x:=x) ps qs.toList _ ((Array.range (n * (T e).size)).map (fun i=>z[i % (T e).size]!)) cs g3 g4 hn hq h
 have hlen : c'.size=n * (T e).size:=by
  have h1 : ∀ (ps : List (Nat×Value)) (c c' : Array Value) (pl : Nat→Option (Nat×Nat)),Instr.fill pl c ps=some c'→c'.size=c.size:=by
   intro ps
   induction ps with
   | nil=>intro c c' pl h; simp only [Instr.fill,Option.some.injEq] at h; rw [h]
   | cons p ps ih =>
     intro c c' pl h
     simp only [Instr.fill] at h
     split at h
     ·cases h
     ·split at h
      ·cases h
      ·rw [ih _ _ _ h,← Array.foldl_toList]
       rename_i hneg
       generalize p.2.cells.zipIdx.toList=l
       clear h hneg
       induction l generalizing c with
       | nil=>rfl
       | cons a l ih2=>simp only [List.foldl_cons]; rw [ih2]; simp
  have:=h1 _ _ _ _ k1
  simpa using this
 refine ⟨c',?_,k2,k3,hlen⟩
 have hb' : ¬ (n * (T e).size>2 ^ 24):=by omega
 by_cases h0 : n * (T e).size=0
 ·have hk1 : Instr.fill (fun i=>some (i * (T e).size,(T e).size)) #[] qs.toList=some c':=by
   rw [h0] at k1
   simpa [Array.range_zero'] using k1
  simp [Instr.buildSlice,run_underlying hu,TyOk.size hT hk,h0,hk1,newRow,Array.range_zero']
 ·have hz1:=g1 h0
  have hzv : ∃ zz,(zeroValue e).run P x.w=.ok zz x.w∧zz.cells=z:=by
   obtain ⟨i,zz,hi,_,_,hz,_⟩:=(hT.ty e hk).info
   refine ⟨zz,by simp [zeroValue,typeInfo,hi,hz],?_⟩
   simp [zeroValue,typeInfo,hi,hz] at hz1
   exact hz1
  obtain ⟨zz,hz2,rfl⟩:=hzv
  rw [← g2] at k1
  have hb'' : ¬ (16777216 < n * (T e).size):=by omega
  simp only [g2] at k1
  simp [Instr.buildSlice,run_underlying hu,TyOk.size hT hk,h0,hb'',hz2,g2,k1,newRow]
theorem buildSlice_sound {x : Cx} {H : AH} (hr : Rel x H) {t e : TypeId} {n : Nat} (hd : (T t).d=.slice e) (hb : n * (T e).size≤16777216) (hb2 : n≤16777216) {ps : List (Nat×AV)} {qs : Array (Nat×Value)} {cs : List AV} (hn : ps.length=qs.toList.length)
  (hq : ∀ (j : Nat) (p : Nat×AV) (q : Nat×Value),ps[j]?=some p→qs.toList[j]?=some q→p.1=q.1∧R x p.2 q.2)
  (h : afill (fun i=>some (i * (T e).size,(T e).size)) (List.replicate n (T e).zero).flatten ps=some cs) : OutV x H (H++[.cells cs]) (.ref true false H.length 0 n (T e).size) ((Instr.buildSlice t n qs).run P x.w):=by
 obtain ⟨c',hrun,k2,k3,hlen⟩:=buildSlice_run hT hd hb hb2 hn hq h
 have hrow:=hr.row k2 k3 c' e (0,0) (by simp) (fun i u hu=>by simpa using hu) (by rw [← k2.length]; simp) (x.w.alloc (.cells c' e)) rfl rfl rfl rfl
 exact ⟨_,_,hrun,hrow.1,hrow.2.1,hrow.2.2,row_ref (cap:=n) hr.N rfl (Nat.le_refl _) (by simp only [maxLen]; omega) (fun _=>rfl) (by rw [hlen]; exact Nat.le_refl _)⟩
theorem buildSlice_frozen {x : Cx} {H : AH} (hr : Rel x H) {t e : TypeId} {n : Nat} (hd : (T t).d=.slice e) (hb : n * (T e).size≤16777216) (hb2 : n≤16777216) {ps : List (Nat×AV)} {qs : Array (Nat×Value)} {cs : List AV} (hn : ps.length=qs.toList.length)
  (hq : ∀ (j : Nat) (p : Nat×AV) (q : Nat×Value),ps[j]?=some p→qs.toList[j]?=some q→p.1=q.1∧R x p.2 q.2)
  (h : afill (fun i=>some (i * (T e).size,(T e).size)) (List.replicate n (T e).zero).flatten ps=some cs) : OutV x H H (.lit false true cs n) ((Instr.buildSlice t n qs).run P x.w):=by
 obtain ⟨c',hrun,k2,k3,hlen⟩:=buildSlice_run hT hd hb hb2 hn hq h
 have h0 : (x.w.alloc (.cells c' e)).heap=x.w.heap.push (.cells c' e):=rfl
 have d1 : x.w.heap.size≤(x.w.alloc (.cells c' e)).heap.size:=by rw [h0]; simp
 have d2 : ∀ k,k < x.w.heap.size→(x.w.alloc (.cells c' e)).heap[k]?=x.w.heap[k]?:=fun k hk=>by rw [h0,Array.getElem?_push,if_neg (by omega)]
 have d3 : (x.w.alloc (.cells c' e)).heap[x.w.heap.size]?=some (.cells c' e):=by rw [h0]; simp
 have d4 : (x.w.alloc (.cells c' e)).heap.size=x.w.heap.size+1:=by rw [h0]; simp
 let Q : Nat→Nat→Prop:=fun k q=>k=x.w.heap.size∧q=cs.length
 obtain ⟨k1,k4,k5⟩:=hr.worldly (x.w.alloc (.cells c' e)) d1 d2 rfl rfl rfl
 have hrel:=k4.more (Q:=Q) (fun k q hq=>by rw [hq.1]; show _ < (x.w.alloc (.cells c' e)).heap.size; omega) (fun k q hq j b hb hbl he=>by
  have:=Own.lt hr ⟨j,⟨b,hb,hbl⟩,rfl⟩
  rw [hq.1] at he
  simp only at he
  omega)
 have hkeep:=k5.trans (Cx.more_keeps _ Q)
 refine ⟨_,_,hrun,k1.more (Q:=Q) (fun k q hq=>.inr (by rw [hq.1]; exact Nat.le_refl _)),hrel,hkeep,R.frozen (Nat.le_refl _) (by simp only [maxLen]; omega) (fun _=>rfl) (RL.keeps hkeep _ _ k2) k3 (.inr (.of (.inr ⟨rfl,by rw [Nat.zero_add]⟩))) (fun i u hu=>?_)⟩
 show (x.w.alloc (.cells c' e)).cell? _=_
 rw [cell_of_row _ _ _ _ _ _ d3,Nat.zero_add]
 simpa using hu
end
end Go.Abs
namespace Go.Abs
section
variable {P : Program} {T : TT} (hT : TyOk P T)
include hT
theorem known_underlying {t : TypeId} (h : (T t).d.known=true) : ∃ d,P.underlying t=some d:=by
 have hd:=(hT.ty t h).desc
 cases hk : (T t).d<;>rw [hk] at hd<;>simp only [DescOk] at hd
 case struct fs=>obtain ⟨fields,hu,_⟩:=hd; exact ⟨_,hu⟩
 case func=>obtain ⟨_,_,_,hu⟩:=hd; exact ⟨_,hu⟩
 case iface=>obtain ⟨_,hu⟩:=hd; exact ⟨_,hu⟩
 all_goals exact ⟨_,hd⟩
theorem convert_sound {x : Cx} {H H' : AH} (hr : Rel x H) {s d : TypeId} {a v : AV} {u : Value} (ha : R x a u) (h : aconvert T H s d a=some (v,H')) : OutV x H H' v ((Go.convert s d u).run P x.w):=by
 unfold aconvert at h
 split at h
 case isFalse=>cases h
 rename_i hks
 obtain ⟨ds,hus⟩:=known_underlying hT hks
 split at h
 ·rename_i k k' n hd
  cases h
  have hu:=TyOk.desc hT hd rfl
  simp only [DescOk] at hu
  simp only [R] at ha
  subst ha
  exact OutV.pure hr rfl (by simp [Go.convert,run_underlying hus,run_underlying hu,Conv.intToInt])
 ·rename_i str hd
  cases h
  have hu:=TyOk.desc hT hd rfl
  simp only [DescOk] at hu
  simp only [R] at ha
  subst ha
  exact OutV.pure hr rfl (by simp [Go.convert,run_underlying hus,run_underlying hu])
 ·rename_i e str hd
  split at h
  case h_2=>cases h
  rename_i hde
  split at h
  case isFalse=>cases h
  rename_i hlen
  cases h
  have hu:=TyOk.desc hT hd rfl
  simp only [DescOk] at hu
  have hue:=TyOk.desc hT hde rfl
  simp only [DescOk] at hue
  simp only [R] at ha
  subst ha
  have hsz : ByteArray.size ⟨str.toArray⟩=str.length:=by simp [ByteArray.size]
  generalize hcap : (Question.appendCap str.length 0 e).cut (x.w.tape x.w.drawn (.appendCap str.length 0 e))=cap
  have hge : str.length≤cap:=by rw [← hcap]; exact grownCap_ge x.w str.length 0 e
  have hle : cap≤maxLen:=by rw [← hcap]; exact grownCap_le_maxLen x.w str.length 0 e hlen
  let c : Array Value:=(str.toArray.map fun b=>Value.int .u8 b.toNat)++Array.replicate (cap - str.length) (.int .u8 0)
  have hc : c.size=cap:=by simp [c]; omega
  let W : World:=(x.w.drew.alloc (.cells c e)).freeze ⟨x.w.heap.size,cap,none⟩ 1
  have hW : W.heap=x.w.heap.push (.cells c e (cap,cap+1)):=by
   apply Array.ext_getElem?
   intro i
   simp only [W,World.freeze,World.alloc,World.drew,Nat.one_ne_zero,if_false,Array.getElem?_modify,Array.getElem?_push]
   by_cases h1 : i=x.w.heap.size
   ·subst h1; simp
   ·rw [if_neg (fun e=>h1 e.symm),if_neg h1,if_neg h1]
  have hrow:=hr.row (cs:=str.map fun b=>.int .u8 b.toNat) (vs:=str.map fun b=>Value.int .u8 b.toNat) (RL.of_get (by simp) (fun i a v ha hv=>by
    rw [List.getElem?_map,Option.map_eq_some_iff] at ha hv
    obtain ⟨p,hp,rfl⟩:=ha
    obtain ⟨q,hq,rfl⟩:=hv
    rw [hp] at hq
    cases hq
    simp [R])) (fun a ha=>by
    obtain ⟨b,_,rfl⟩:=List.mem_map.1 ha
    rfl) c e (cap,cap+1) (fun i hi=>by rw [hc] at hi; simp; omega) (fun i u hu=>by
    have hlt:=(List.getElem?_eq_some_iff.1 hu).1
    simp only [c]
    rw [Array.getElem?_append,if_pos (by simpa using hlt)]
    simpa using hu) (by rw [hc]; simpa using hge) W hW rfl rfl rfl
  refine ⟨.slice (some ⟨x.w.heap.size,0,none⟩) str.length cap,_,?_,hrow.1,hrow.2.1,hrow.2.2,row_ref hr.N hW hge hle (by simp) (by rw [hc]; simp)⟩
  have hcap' : (Question.appendCap str.length 0 e).cut (x.w.tape x.w.drawn (.appendCap str.length 0 e))=cap:=hcap
  have hsh : (x.w.drew.alloc (.cells c e)).shape? x.w.heap.size=some (e,cap):=by
   have h1 : (x.w.drew.alloc (.cells c e)).heap[x.w.heap.size]?=some (.cells c e):=heap_alloc_new x.w.drew _
   unfold World.shape?
   rw [h1]
   simp [hc]
  have hcc : (str.toArray.map (fun b=>Value.int .u8 b.toNat))++Array.replicate (cap - str.length) (.int .u8 0)=c:=rfl
  simp only [Go.convert,Sem.run_bind,run_underlying hus,run_underlying hu,Result.andThen_ok,run_underlying hue,Conv.stringToBytes,run_choose,Question.forced,hsz,hcap',Bool.false_eq_true,if_false,World.drew_eq,newRow,run_newObj,World.alloc_eq,Sem.run_pure,markStringish,run_shape,hcc,World.size_drew]
  rw [hsh]
  simp [W,Cx.new,Cx.newV]
 ·rename_i av ad x' hd hns
  split at h
  case h_2=>cases h
  rename_i e n hds hn
  split at h
  case h_2=>cases h
  rename_i cs hde hcs
  simp only [Option.map_eq_some_iff] at h
  obtain ⟨str,hstr,h⟩:=h
  cases h
  have hu:=TyOk.desc hT hd rfl
  simp only [DescOk] at hu
  have hus':=TyOk.desc hT hds rfl
  simp only [DescOk] at hus'
  have hue:=TyOk.desc hT hde rfl
  simp only [DescOk] at hue
  obtain ⟨vs,l1,l2,l3,l4⟩:=acells_sound (P:=P) hr ha hcs (fun _ _=>rfl) (fun len hl=>by rw [hn] at hl; cases hl; exact Nat.le_refl _)
  obtain ⟨b1,b2⟩:=bytes_back hstr
  obtain ⟨ns,rfl,rfl⟩:=b2 l1
  have l4':=l4 x.w rfl
  have hnl : ns.length=n:=by simpa using l3
  have hshape : ∃ base cap,u=.slice base n cap∧(base=none→n=0):=by
   cases av<;>simp only [alen] at hn<;>first|(cases hn; done)|skip
   ·exact (hns _ rfl).elim
   ·cases hn
    simp only [R] at ha
    rcases ha with ⟨⟨p,hpn,rfl⟩,_,rfl⟩|⟨_,b,o,cap,vs,rfl,hle,_⟩
    ·exact ⟨_,_,rfl,fun _=>rfl⟩
    ·exact ⟨_,_,rfl,fun h=>by cases h⟩
   ·cases hn
    simp only [R] at ha
    obtain ⟨_,⟨_,rfl,rfl⟩|⟨_,cap,S,o,rfl,_,hle,_⟩⟩:=ha
    ·exact ⟨_,_,rfl,fun _=>rfl⟩
    ·exact ⟨_,_,rfl,fun h=>by cases h⟩
   ·cases hn
    have ha:=ha.weak
    simp only [AV.weak,R] at ha
    rcases ha with ⟨⟨p,hpn,rfl⟩,_,rfl⟩|⟨_,b,o,cap,vs,rfl,hle,_⟩
    ·exact ⟨_,_,rfl,fun _=>rfl⟩
    ·exact ⟨_,_,rfl,fun h=>by cases h⟩
  obtain ⟨base,cap,rfl,hbn⟩:=hshape
  refine OutV.pure (u:=.string ⟨(ns.map fun (n : Int)=>UInt8.ofNat n.toNat).toArray⟩) hr (by simp only [R]) ?_
  cases base with
  | none =>
    have h0:=hbn rfl
    subst h0
    have : ns=[]:=List.length_eq_zero_iff.1 hnl
    subst this
    simp [Go.convert,run_underlying hus',run_underlying hu,run_underlying hue,Conv.bytesToString]
    rfl
  | some ad =>
    have hb:=bytesToString_run (P:=P) (w:=x.w) (a:=ad) (cap:=cap) ns (by
     simp only [Builtin.firstCells,Nat.mul_one] at l4'
     rw [hnl]
     exact l4')
    rw [hnl] at hb
    simp [Go.convert,run_underlying hus',run_underlying hu,run_underlying hue,hb]
 ·cases h
theorem convertF_sound {x : Cx} {H H' : AH} (hr : Rel x H) {s d : TypeId} {a v : AV} {u : Value} (ha : R x a u) (h : aconvertF T H s d a=some (v,H')) : OutV x H H' v ((Go.convert s d u).run P x.w):=by
 unfold aconvertF at h
 split at h
 case isFalse=>cases h
 rename_i hks
 obtain ⟨ds,hus⟩:=known_underlying hT hks
 split at h
 case h_2=>cases h
 ·rename_i e str hd
  split at h
  case h_2=>cases h
  rename_i hde
  split at h
  case isFalse=>cases h
  rename_i hlen
  obtain ⟨hlen,_⟩:=hlen
  cases h
  have hu:=TyOk.desc hT hd rfl
  simp only [DescOk] at hu
  have hue:=TyOk.desc hT hde rfl
  simp only [DescOk] at hue
  simp only [R] at ha
  subst ha
  have hsz : ByteArray.size ⟨str.toArray⟩=str.length:=by simp [ByteArray.size]
  generalize hcap : (Question.appendCap str.length 0 e).cut (x.w.tape x.w.drawn (.appendCap str.length 0 e))=cap
  have hge : str.length≤cap:=by rw [← hcap]; exact grownCap_ge x.w str.length 0 e
  have hle : cap≤maxLen:=by rw [← hcap]; exact grownCap_le_maxLen x.w str.length 0 e hlen
  let c : Array Value:=(str.toArray.map fun b=>Value.int .u8 b.toNat)++Array.replicate (cap - str.length) (.int .u8 0)
  have hc : c.size=cap:=by simp [c]; omega
  let W : World:=(x.w.drew.alloc (.cells c e)).freeze ⟨x.w.heap.size,cap,none⟩ 1
  have hW : W.heap=x.w.heap.push (.cells c e (cap,cap+1)):=by
   apply Array.ext_getElem?
   intro i
   simp only [W,World.freeze,World.alloc,World.drew,Nat.one_ne_zero,if_false,Array.getElem?_modify,Array.getElem?_push]
   by_cases h1 : i=x.w.heap.size
   ·subst h1; simp
   ·rw [if_neg (fun e=>h1 e.symm),if_neg h1,if_neg h1]
  have hrow:=hr.ownRow (cs:=str.map fun b=>.int .u8 b.toNat) (vs:=str.map fun b=>Value.int .u8 b.toNat) (RL.of_get (by simp) (fun i a v ha hv=>by
    rw [List.getElem?_map,Option.map_eq_some_iff] at ha hv
    obtain ⟨p,hp,rfl⟩:=ha
    obtain ⟨q,hq,rfl⟩:=hv
    rw [hp] at hq
    cases hq
    simp [R])) (fun a ha=>by
    obtain ⟨b,_,rfl⟩:=List.mem_map.1 ha
    rfl) (c:=c) (t:=e) (fz:=(cap,cap+1)) (fun i hi=>by rw [hc] at hi; simp; omega) (fun i u hu=>by
    have hlt:=(List.getElem?_eq_some_iff.1 hu).1
    simp only [c]
    rw [Array.getElem?_append,if_pos (by simpa using hlt)]
    simpa using hu) (n:=str.length) (cap:=cap) (sz:=1) (by simp) hge hle (by rw [hc]; simp) (w':=W) hW rfl rfl rfl
  obtain ⟨y,ey,y1,y2,y3,y4⟩:=hrow
  refine ⟨.slice (some ⟨x.w.heap.size,0,none⟩) str.length cap,y,?_,y1,y2,y3,y4⟩
  rw [ey]
  have hcap' : (Question.appendCap str.length 0 e).cut (x.w.tape x.w.drawn (.appendCap str.length 0 e))=cap:=hcap
  have hsh : (x.w.drew.alloc (.cells c e)).shape? x.w.heap.size=some (e,cap):=by
   have h1 : (x.w.drew.alloc (.cells c e)).heap[x.w.heap.size]?=some (.cells c e):=heap_alloc_new x.w.drew _
   unfold World.shape?
   rw [h1]
   simp [hc]
  have hcc : (str.toArray.map (fun b=>Value.int .u8 b.toNat))++Array.replicate (cap - str.length) (.int .u8 0)=c:=rfl
  simp only [Go.convert,Sem.run_bind,run_underlying hus,run_underlying hu,Result.andThen_ok,run_underlying hue,Conv.stringToBytes,run_choose,Question.forced,hsz,hcap',Bool.false_eq_true,if_false,World.drew_eq,newRow,run_newObj,World.alloc_eq,Sem.run_pure,markStringish,run_shape,hcc,World.size_drew]
  rw [hsh]
  simp [W]
end
end Go.Abs
namespace Go.Abs
theorem map_erase {α β : Type} {g : α→β} : ∀ (l : List α) (n : Nat),(l.eraseIdx n).map g=(l.map g).eraseIdx n
 | [],_=>rfl
 | a::l,0=>rfl
 | a::l,n+1=>by simp [map_erase l n]
theorem RL.eraseIdx {x : Cx} : ∀ {as : List AV} {vs : List Value},RL x as vs→∀ (n : Nat),RL x (as.eraseIdx n) (vs.eraseIdx n)
 | [],_,h,_=>by simp only [RL] at h; simp [h,RL]
 | a::as,_,h,n=>by
   simp only [RL] at h
   obtain ⟨v,r,rfl,h1,h2⟩:=h
   cases n with
   | zero=>exact h2
   | succ n=>exact ⟨v,r.eraseIdx n,rfl,h1,RL.eraseIdx h2 n⟩
def FoundC (x : Cx) (es : List (AV×AV)) (c : List MapEntry) (i : Nat) : Option (Nat×AV×AV)→Option (Nat×Value)→Prop
 | none,r=>r=none
 | some (j,k,v),r=>∃ m e,j=i+m∧es[m]?=some (k,v)∧c[m]?=some e∧R x k e.key∧R x v e.val∧r=some (j,e.val)
theorem FoundC.succ {x : Cx} {es : List (AV×AV)} {c : List MapEntry} {i : Nat} {a : AV×AV} {e : MapEntry} {r : Option (Nat×AV×AV)} {r' : Option (Nat×Value)} (h : FoundC x es c (i+1) r r') : FoundC x (a::es) (e::c) i r r':=by
 cases r with
 | none=>exact h
 | some r =>
   obtain ⟨j,k,v⟩:=r
   obtain ⟨m,e',h1,h2,h3,h4,h5,h6⟩:=h
   exact ⟨m+1,e',by omega,by simpa using h2,by simpa using h3,h4,h5,h6⟩
section
variable {P : Program} {T : TT} (hT : TyOk P T)
theorem same_equalIn (n : Nat) {t : TypeId} {d : TypeDesc} (hu : P.underlying t=some d) {u v : Value} {b : Bool} (h : Instr.sameNow d u v=some b) (w : World) : (Op.equalIn (n+1) t u v).run P w=.ok b w:=by
 unfold Instr.sameNow at h
 split at h
 ·split at h
  ·rename_i hk
   cases h
   subst hk
   simp [Op.equalIn,run_underlying hu]
  ·cases h
 ·cases h
  simp [Op.equalIn,run_underlying hu]
 ·cases h
  simp [Op.equalIn,run_underlying hu]
 ·cases h
theorem same_equal {t : TypeId} {d : TypeDesc} (hu : P.underlying t=some d) {u v : Value} {b : Bool} (h : Instr.sameNow d u v=some b) (w : World) : (Op.equal t u v).run P w=.ok b w:=same_equalIn 9999 hu h w
include hT
theorem findAsking_sound {x : Cx} {t : TypeId} {key : AV} {kv : Value} (hk : R x key kv) (w : World) : ∀ (es : List (AV×AV)) (c : List MapEntry) (i : Nat) (r : Option (Nat×AV×AV)),RL x (es.map (·.1)) (c.map (·.key))→RL x (es.map (·.2)) (c.map (·.val)) →
  afind T t key es i=some r→∃ r',(Instr.findAsking t kv c i).run P w=.ok r' w∧FoundC x es c i r r'
 | [],[],i,r,_,_,h=>by
   simp only [afind,Option.some.injEq] at h
   subst h
   exact ⟨none,by simp [Instr.findAsking],rfl⟩
 | [],_::_,_,_,h,_,_=>by simp [RL] at h
 | _::_,[],_,_,h,_,_=>by simp [RL] at h
 | a::es,e::c,i,r,h1,h2,h=>by
   simp only [List.map_cons,RL] at h1 h2
   obtain ⟨_,_,e1,h1a,h1b⟩:=h1
   cases e1
   obtain ⟨_,_,e2,h2a,h2b⟩:=h2
   cases e2
   simp only [afind] at h
   cases hq : aeq T 10000 t key a.1 with
   | none=>rw [hq] at h; cases h
   | some b =>
     have heq : (Op.equal t kv e.key).run P w=.ok b w:=aeq_sound hT 10000 t key a.1 kv e.key b w hk h1a hq
     rw [hq] at h
     cases b with
     | true =>
       cases h
       exact ⟨some (i,e.val),by simp [Instr.findAsking,heq],0,e,rfl,rfl,rfl,h1a,h2a,rfl⟩
     | false =>
       obtain ⟨r',g1,g2⟩:=findAsking_sound hk w es c (i+1) r h1b h2b h
       exact ⟨r',by simpa [Instr.findAsking,heq] using g1,g2.succ⟩
theorem findNow_sound {x : Cx} {t : TypeId} {d : TypeDesc} (hu : P.underlying t=some d) {key : AV} {kv : Value} (hk : R x key kv) : ∀ (es : List (AV×AV)) (c : List MapEntry) (i : Nat) (r : Option (Nat×AV×AV)) (r' : Option (Nat×Value)),
  RL x (es.map (·.1)) (c.map (·.key))→RL x (es.map (·.2)) (c.map (·.val))→afind T t key es i=some r→Instr.findNow d kv c i=some r'→FoundC x es c i r r'
 | [],[],i,r,r',_,_,h,h'=>by
   simp only [afind,Option.some.injEq] at h
   simp only [Instr.findNow,Option.some.injEq] at h'
   subst h h'
   rfl
 | [],_::_,_,_,_,h,_,_,_=>by simp [RL] at h
 | _::_,[],_,_,_,h,_,_,_=>by simp [RL] at h
 | a::es,e::c,i,r,r',h1,h2,h,h'=>by
   simp only [List.map_cons,RL] at h1 h2
   obtain ⟨_,_,e1,h1a,h1b⟩:=h1
   cases e1
   obtain ⟨_,_,e2,h2a,h2b⟩:=h2
   cases e2
   simp only [afind] at h
   simp only [Instr.findNow] at h'
   cases hq : aeq T 10000 t key a.1 with
   | none=>rw [hq] at h; cases h
   | some b =>
     have heq : (Op.equal t kv e.key).run P x.w=.ok b x.w:=aeq_sound hT 10000 t key a.1 kv e.key b x.w hk h1a hq
     rw [hq] at h
     cases hs : Instr.sameNow d kv e.key with
     | none=>rw [hs] at h'; cases h'
     | some b' =>
       have:=same_equal hu hs x.w
       rw [heq] at this
       cases this
       rw [hs] at h'
       cases b with
       | true =>
         cases h
         cases h'
         exact ⟨0,e,rfl,rfl,rfl,h1a,h2a,rfl⟩
       | false=>exact (findNow_sound hu hk es c (i+1) r r' h1b h2b h h').succ
omit hT in
theorem keyOk_known {k : TypeId} (h : keyOk T k=true) : (T k).d.known=true:=by
 unfold keyOk at h
 cases hd : (T k).d<;>simp_all [AD.known]
theorem findKey_sound {x : Cx} {t : TypeId} (ht : keyOk T t=true) {key : AV} {kv : Value} (hk : R x key kv) {es : List (AV×AV)} {c : List MapEntry} {r : Option (Nat×AV×AV)} (h1 : RL x (es.map (·.1)) (c.map (·.key))) (h2 : RL x (es.map (·.2)) (c.map (·.val))) (h : afind T t key es 0=some r) (w : World) :
  ∃ r',(Instr.findKey t kv c).run P w=.ok r' w∧FoundC x es c 0 r r':=by
 obtain ⟨d,hu⟩:=known_underlying hT (keyOk_known ht)
 unfold Instr.findKey
 simp only [Sem.run_bind,run_underlying hu,Result.andThen_ok]
 cases hn : Instr.findNow d kv c 0 with
 | some r'=>exact ⟨r',by simp,findNow_sound hT hu hk es c 0 r r' h1 h2 h hn⟩
 | none=>exact findAsking_sound hT hk w es c 0 r h1 h2 h
theorem checkFlat_sound (b : Bool) (n : Nat) {t : TypeId} (hk : (match (T t).d with|.bool|.int _|.str=>true|_=>false)=true) (kv : Value) (w : World) : (Instr.checkKey b (n+1) t kv).run P w=.ok () w:=by
 have hkn : (T t).d.known=true:=by cases hd : (T t).d<;>simp_all [AD.known]
 have hd:=(hT.ty t hkn).desc
 unfold Instr.checkKey
 cases hdk : (T t).d<;>rw [hdk] at hd hk<;>simp only [DescOk] at hd<;>first|(cases hk; done)|skip
 all_goals simp [run_underlying hd]
theorem checkKey_sound (b : Bool) (n : Nat) {x : Cx} {k : TypeId} (hk : keyOk T k=true) {key : AV} (hf : keyFits T k key=true) {kv : Value} (hr : R x key kv) (w : World) : (Instr.checkKey b (n+2) k kv).run P w=.ok () w:=by
 have hk0:=hk
 have hd:=(hT.ty k (keyOk_known hk)).desc
 unfold keyOk at hk
 unfold keyFits at hf
 cases hdk : (T k).d<;>rw [hdk] at hd hk hf<;>simp only [DescOk] at hd<;>first|(cases hk; done)|skip
 case struct fs =>
  obtain ⟨fields,hu,hfs⟩:=hd
  cases key<;>first|(cases hf; done)|skip
  rename_i cs
  simp only [R] at hr
  obtain ⟨hc,vs,rfl,hl⟩:=hr
  unfold Instr.checkKey
  simp only [Sem.run_bind,run_underlying hu,Result.andThen_ok]
  rw [← Array.forIn_toList]
  subst hfs
  simp only [List.all_map,List.all_eq_true,Function.comp_apply,Bool.or_eq_true] at hk hf
  have key : ∀ l : List Field,(∀ f∈l,f∈fields.toList)→(forIn l PUnit.unit fun f (_ : PUnit)=>if f.name = "_" then (pure (ForInStep.yield PUnit.unit) : Sem (ForInStep PUnit)) else do
    let p ← part f.type vs.toArray f.offset
    (fun _=>ForInStep.yield PUnit.unit) <$> Instr.checkKey b (n+1) f.type p).run P w=.ok PUnit.unit w:=by
   intro l
   induction l with
   | nil=>intro _; simp
   | cons f l ih =>
     intro hm
     rw [List.forIn_cons]
     have ih':=ih (fun g hg=>hm g (by simp [hg]))
     by_cases hn : f.name = "_"
     ·simp only [hn,if_true,Sem.run_bind,Sem.run_pure,Result.andThen_ok]
      exact ih'
     ·have h1:=hk f (hm f (by simp))
      have h2:=(hf f (hm f (by simp))).resolve_left (by simpa using hn)
      obtain ⟨p,hp⟩:=Option.isSome_iff_exists.1 h2
      obtain ⟨u,hu2,_⟩:=part_sound hT hl hc hp w
      have h3:=checkFlat_sound hT b n h1 u w
      simp only [hn,if_false,Sem.run_bind,hu2,Result.andThen_ok,map_eq_pure_bind,h3,Sem.run_pure]
      exact ih'
  have h9:=key fields.toList (fun _ h=>h)
  simp at h9
  simp [h9]
 all_goals exact checkFlat_sound hT b (n+1) (by rw [hdk]) kv w
omit hT in
theorem amap_some {H : AH} {l : Nat} {es : List (AV×AV)} {bs : List Nat} {clock : Nat} (h : amap H l=some (es,bs,clock)) : H[l]?=some (.map es bs clock):=by
 unfold amap at h
 split at h
 ·rename_i hl
  cases h
  exact hl
 ·cases h
omit hT in
theorem entries_sound {x : Cx} {H : AH} (hr : Rel x H) {a : AV} {u : Value} {es : List (AV×AV)} (ha : R x a u) (h : aentries H a=some es) :
  (u=.map none∧a=.nilmap∧es=[])∨∃ l c bs clock,a=.map l∧u=.map (some (x.at_ l).1)∧amap H l=some (es,bs,clock)∧H[l]?=some (.map es bs clock)∧x.w.heap[(x.at_ l).1]?=some (.map c clock)∧RL x (es.map (·.1)) (c.toList.map (·.key))∧RL x (es.map (·.2)) (c.toList.map (·.val))∧c.toList.map (·.born)=bs:=by
 unfold aentries at h
 split at h
 ·cases h
  simp only [R] at ha
  exact .inl ⟨ha,rfl,rfl⟩
 ·rename_i l
  simp only [Option.map_eq_some_iff] at h
  obtain ⟨⟨es',bs,clock⟩,hm,rfl⟩:=h
  have hl:=amap_some hm
  simp only [R] at ha
  obtain ⟨_,c,h1,h2,h3,h4⟩:=hr.block l _ hl
  exact .inr ⟨l,c,bs,clock,rfl,ha.2.2,hm,hl,h1,h2,h3,h4⟩
 ·cases h
omit hT in
theorem getMap_run {w : World} {r : Nat} {c : Array MapEntry} {clock : Nat} (h : w.heap[r]?=some (.map c clock)) : (getObj r).run P w=.ok (.map c clock) w:=by simp [getObj,Sem.run,h]
omit hT in
theorem setMap_run {w : World} {r : Nat} {c : Array MapEntry} {clock : Nat} (o : Obj) (h : w.heap[r]?=some (.map c clock)) : (setObj r o).run P w=.ok () { w with heap:=w.heap.setIfInBounds r o }:=by simp [setObj,Sem.run,h]
theorem azero_sound {e : TypeId} {z : AV} (h : azero T e=some z) (x : Cx) (w : World) : ∃ v,(zeroValue e).run P w=.ok v w∧R x z v:=by
 unfold azero at h
 split at h
 ·rename_i hk
  obtain ⟨i,v,hi,hs,hb,hz,hzs,hm⟩:=(hT.ty e hk).info
  have hag:=(hT.ty e hk).zagg i v hi hz
  have hl:=RL.closed (x:=x) hm
  refine ⟨v,by simp [zeroValue,typeInfo,hi,hz],?_⟩
  split at h
  ·rename_i ha
   cases h
   rw [ha] at hag
   cases v<;>simp only [isAggV] at hag<;>first|(cases hag; done)|skip
   rename_i vs
   simp only [R]
   exact ⟨hl.2,vs.toList,by simp,hl.1⟩
  ·rename_i ha
   split at h
   ·rename_i z' hz'
    cases h
    rw [hz'] at hl
    have hv : v.cells.toList=[v]:=by
     cases v<;>first|rfl|skip
     simp [isAggV] at hag
     rw [← hag] at ha
     exact absurd rfl ha
    rw [hv] at hl
    simp only [RL] at hl
    obtain ⟨⟨_,_,e1,h1,_⟩,_⟩:=hl
    cases e1
    exact h1
   ·cases h
 ·cases h
theorem lookup_end {x : Cx} {t k e : TypeId} (hd : (T t).d=.map k e) {H : AH} {a key v : AV} {r : Option (Nat×AV×AV)} (hf : afound T H t a key=some r) {b : Bool} (h : alookup T H t a key b=some v) {es : List (AV×AV)} {c : List MapEntry} {r' : Option (Nat×Value)} (hfc : FoundC x es c 0 r r') :
  ∃ q,(match r' with
    | some (_,v)=>(pure (v,true) : Sem (Value×Bool))
    | none=>do pure (← zeroValue e,false)).run P x.w=.ok q x.w∧R x v (if b then .tuple #[q.1,.bool q.2] else q.1):=by
 unfold alookup at h
 rw [hf,hd] at h
 have fin : ∀ (z : AV) (q : Value) (o : Bool),R x z q→R x (if b then .tup [z,.bool o] else z) (if b then .tuple #[q,.bool o] else q):=by
  intro z q o hz
  cases b
  ·exact hz
  ·simp only [if_true,R]
   exact ⟨[q,.bool o],rfl,_,_,rfl,hz,_,_,rfl,by simp [R],rfl⟩
 cases r with
 | none =>
   simp only [FoundC] at hfc
   subst hfc
   simp only [Option.map_eq_some_iff] at h
   obtain ⟨z,hz,rfl⟩:=h
   obtain ⟨q,hq,hrq⟩:=azero_sound hT hz x x.w
   exact ⟨(q,false),by simp [hq],fin z q false hrq⟩
 | some r =>
   obtain ⟨j,k',v'⟩:=r
   obtain ⟨m,e',h1,h2,h3,h4,h5,rfl⟩:=hfc
   simp only [Option.some.injEq] at h
   subst h
   exact ⟨(e'.val,true),by simp,fin v' e'.val true h5⟩
theorem lookup_sound {x : Cx} {H : AH} (hr : Rel x H) {t : TypeId} {a key v : AV} {u kv : Value} {b : Bool} (ha : R x a u) (hk : R x key kv) (h : alookup T H t a key b=some v) : ∃ q,(Instr.lookup t u kv b).run P x.w=.ok q x.w∧R x v q:=by
 have hf : ∃ r,afound T H t a key=some r:=by
  unfold alookup at h
  cases hf : afound T H t a key with
  | none=>rw [hf] at h; simp at h
  | some r=>exact ⟨r,rfl⟩
 obtain ⟨r,hf⟩:=hf
 have hf0:=hf
 unfold afound at hf
 split at hf
 ·rename_i k e es hd he
  split at hf
  ·rename_i hok
   rw [Bool.and_eq_true] at hok
   have hu:=(hT.ty t (by rw [hd]; rfl)).desc
   rw [hd] at hu
   simp only [DescOk] at hu
   rcases entries_sound hr ha he with ⟨rfl,rfl,rfl⟩|⟨l,c,bs,clock,rfl,rfl,_,_,hb,h1,h2,h4⟩
   ·obtain ⟨r',hr',hfc⟩:=findKey_sound hT hok.1 hk (c:=[]) (by simp [RL]) (by simp [RL]) hf x.w
    have hck:=checkKey_sound hT (#[] : Array MapEntry).isEmpty 9998 hok.1 hok.2 hk x.w
    obtain ⟨q,hq,hrq⟩:=lookup_end hT hd hf0 h hfc
    refine ⟨_,?_,hrq⟩
    unfold Instr.lookup
    simp only [Sem.run_bind,run_underlying hu,Result.andThen_ok,Sem.run_pure]
    rw [hck]
    simp only [Result.andThen_ok,hr']
    cases r' with
    | some r'=>simp_all
    | none =>
      simp only [Sem.run_bind] at hq ⊢
      cases hz : Sem.run P (zeroValue e) x.w with
      | ok z w' =>
        rw [hz] at hq
        simp only [Result.andThen_ok,Sem.run_pure,Result.ok.injEq] at hq ⊢
        obtain ⟨rfl,rfl⟩:=hq
        exact ⟨rfl,rfl⟩
      | halt _ _=>rw [hz] at hq; simp [Result.andThen] at hq
   ·obtain ⟨r',hr',hfc⟩:=findKey_sound hT hok.1 hk h1 h2 hf x.w
    have hck:=checkKey_sound hT c.isEmpty 9998 hok.1 hok.2 hk x.w
    obtain ⟨q,hq,hrq⟩:=lookup_end hT hd hf0 h hfc
    refine ⟨_,?_,hrq⟩
    unfold Instr.lookup
    simp only [Sem.run_bind,run_underlying hu,Result.andThen_ok,Sem.run_pure,getMap_run hb]
    rw [hck]
    simp only [Result.andThen_ok,hr']
    cases r' with
    | some r'=>simp_all
    | none =>
      simp only [Sem.run_bind] at hq ⊢
      cases hz : Sem.run P (zeroValue e) x.w with
      | ok z w' =>
        rw [hz] at hq
        simp only [Result.andThen_ok,Sem.run_pure,Result.ok.injEq] at hq ⊢
        obtain ⟨rfl,rfl⟩:=hq
        exact ⟨rfl,rfl⟩
      | halt _ _=>rw [hz] at hq; simp [Result.andThen] at hq
  ·cases hf
 ·cases hf
omit hT in
theorem flatEq_sound {x : Cx} {a b : AV} {u v : Value} (h : flatEq a b=true) (ha : R x a u) (hb : R x b v) : u=v∧∀ n,Instr.sameBits n u v=true:=by
 unfold flatEq at h
 split at h
 ·simp only [beq_iff_eq] at h
  subst h
  simp only [R] at ha hb
  subst ha hb
  exact ⟨rfl,fun n=>by cases n<;>simp [Instr.sameBits]⟩
 ·simp only [Bool.and_eq_true,beq_iff_eq] at h
  obtain ⟨rfl,rfl⟩:=h
  simp only [R] at ha hb
  subst ha hb
  exact ⟨rfl,fun n=>by cases n<;>simp [Instr.sameBits]⟩
 ·simp only [beq_iff_eq] at h
  subst h
  simp only [R] at ha hb
  subst ha hb
  exact ⟨rfl,fun n=>by cases n<;>(unfold Instr.sameBits; exact (Go.MapKept.bytes_beq _ _).2 rfl)⟩
 ·cases h
omit hT in
theorem flatsEq_sound {x : Cx} : ∀ {a b : List AV} {u v : List Value},flatsEq a b=true→RL x a u→RL x b v→u=v∧∀ n,((u.zip v).all fun p=>Instr.sameBits n p.1 p.2)=true
 | [],[],u,v,_,ha,hb=>by
   simp only [RL] at ha hb
   subst ha hb
   simp
 | [],_::_,_,_,h,_,_=>by simp [flatsEq] at h
 | _::_,[],_,_,h,_,_=>by simp [flatsEq] at h
 | a::as,b::bs,u,v,h,ha,hb=>by
   simp only [flatsEq,Bool.and_eq_true] at h
   simp only [RL] at ha hb
   obtain ⟨p,r,rfl,h1,h2⟩:=ha
   obtain ⟨q,s,rfl,h3,h4⟩:=hb
   obtain ⟨rfl,h5⟩:=flatEq_sound h.1 h1 h3
   obtain ⟨rfl,h6⟩:=flatsEq_sound h.2 h2 h4
   exact ⟨rfl,fun n=>by simp only [List.zip_cons_cons,List.all_cons,h5 n,h6 n,Bool.and_self]⟩
omit hT in
theorem keySame_sound {x : Cx} {a b : AV} {u v : Value} (h : keySame a b=true) (ha : R x a u) (hb : R x b v) : u=v∧∀ n,Instr.sameBits (n+1) u v=true:=by
 unfold keySame at h
 split at h
 ·simp only [R] at ha hb
  obtain ⟨_,us,rfl,h1⟩:=ha
  obtain ⟨_,vs,rfl,h2⟩:=hb
  obtain ⟨rfl,h3⟩:=flatsEq_sound h h1 h2
  refine ⟨rfl,fun n=>?_⟩
  unfold Instr.sameBits
  rw [Bool.and_eq_true]
  exact ⟨by simp,h3 n⟩
 ·obtain ⟨h1,h2⟩:=flatEq_sound h ha hb
  exact ⟨h1,fun n=>h2 (n+1)⟩
omit hT in
theorem modify_map {β : Type} {g : MapEntry→β} {f : MapEntry→MapEntry} {y : β} (hf : ∀ e,g (f e)=y) (c : Array MapEntry) (m : Nat) : (c.modify m f).toList.map g=(c.toList.map g).set m y:=by
 refine List.ext_getElem? fun i=>?_
 rw [List.getElem?_set,List.getElem?_map,Array.getElem?_toList,Array.getElem?_modify]
 by_cases h : m=i
 ·subst h
  simp only [if_true]
  cases hc : c[m]? with
  | none =>
    have:=Array.getElem?_eq_none_iff.1 hc
    simp; omega
  | some e =>
    have:=(Array.getElem?_eq_some_iff.1 hc).1
    simp [hf,this]
 ·simp [h]
omit hT in
theorem modify_born {kv vv : Value} (c : Array MapEntry) (m : Nat) : (c.modify m fun e=>{ e with key:=kv,val:=vv }).toList.map (·.born)=c.toList.map (·.born):=by
 refine List.ext_getElem? fun i=>?_
 rw [List.getElem?_map,List.getElem?_map,Array.getElem?_toList,Array.getElem?_toList,Array.getElem?_modify]
 by_cases h : m=i
 ·subst h
  simp only [if_true,Option.map_map]
  rfl
 ·simp [h]
omit hT in
theorem map_put {x : Cx} {H : AH} (hr : Rel x H) {l : Nat} {es es' : List (AV×AV)} {bs bs' : List Nat} {clock0 clock clock' : Nat} (hl : H[l]?=some (.map es bs clock0)) {c c' : Array MapEntry} (hb : x.w.heap[(x.at_ l).1]?=some (.map c clock)) (h1 : RL x (es'.map (·.1)) (c'.toList.map (·.key))) (h2 : RL x (es'.map (·.2)) (c'.toList.map (·.val))) (h4 : c'.toList.map (·.born)=bs') :
  let w' : World:={ x.w with heap:=x.w.heap.setIfInBounds (x.at_ l).1 (.map c' clock') }
  Mv x.N x H { x with w:=w' } (H.set l (.map es' bs' clock'))∧Rel { x with w:=w' } (H.set l (.map es' bs' clock'))∧Keeps x { x with w:=w' }:=by
 intro w'
 have hlive : Live H l:=⟨_,hl,rfl⟩
 have hlt:=Own.lt hr ⟨l,hlive,rfl⟩
 have ho : ∀ k,k≠(x.at_ l).1→w'.heap[k]?=x.w.heap[k]?:=fun k hk=>Array.getElem?_setIfInBounds_ne (Ne.symm hk)
 have hsz : ∀ s,bsz x.w (x.at_ l).1=some s→bsz w' (x.at_ l).1=some s:=fun s hs=>by
  unfold bsz at hs
  rw [hb] at hs
  cases hs
 refine hr.update _ hl rfl rfl rfl rfl w' (by simp [w']) ho hsz rfl rfl rfl (fun hk=>?_)
 refine ⟨(hr.block l _ hl).1,c',?_,RL.keeps hk _ _ h1,RL.keeps hk _ _ h2,h4⟩
 show (x.w.heap.setIfInBounds (x.at_ l).1 (.map c' clock'))[(x.at_ l).1]?=_
 rw [Array.getElem?_setIfInBounds_self_of_lt hlt]
theorem update_sound {x : Cx} {H H' : AH} (hr : Rel x H) {t : TypeId} {a key v : AV} {u kv vv : Value} (ha : R x a u) (hk : R x key kv) (hv : R x v vv) (h : aupdate T H t a key v=some H') :
  ∃ y,(Instr.mapUpdate t u kv vv).run P x.w=.ok () y.w∧Mv x.N x H y H'∧Rel y H'∧Keeps x y:=by
 unfold aupdate at h
 split at h
 ·rename_i k e l hd
  obtain ⟨es,bs0,clock0,hm0⟩ : ∃ es bs clock,amap H l=some (es,bs,clock):=by
   cases hm : amap H l with
   | none=>rw [hm] at h; simp at h
   | some m=>exact ⟨m.1,m.2.1,m.2.2,rfl⟩
  have he : aentries H (.map l)=some es:=by simp [aentries,hm0]
  have hf : ∃ r,afound T H t (.map l) key=some r:=by
   cases hf : afound T H t (.map l) key with
   | none=>rw [hf,hm0] at h; simp at h
   | some r=>exact ⟨r,rfl⟩
  obtain ⟨r,hf⟩:=hf
  rw [hf,hm0] at h
  unfold afound at hf
  rw [hd,he] at hf
  simp only at hf
  split at hf
  ·rename_i hok
   rw [Bool.and_eq_true] at hok
   have hu:=(hT.ty t (by rw [hd]; rfl)).desc
   rw [hd] at hu
   simp only [DescOk] at hu
   rcases entries_sound hr ha he with ⟨_,hn,_⟩|⟨l',c,bs,clock,hl',rfl,hm,hl,hb,h1,h2,h4⟩
   ·cases hn
   cases hl'
   obtain ⟨rfl,rfl⟩ : bs0=bs∧clock0=clock:=by rw [hm0] at hm; cases hm; exact ⟨rfl,rfl⟩
   obtain ⟨r',hr',hfc⟩:=findKey_sound hT hok.1 hk h1 h2 hf x.w
   have hck:=checkKey_sound hT false 9998 hok.1 hok.2 hk x.w
   cases r with
   | none =>
     simp only [FoundC] at hfc
     subst hfc
     cases h
     refine ⟨{ x with w:=_ },?_,map_put hr hl hb (c':=c.push { key:=kv,val:=vv,born:=clock0 }) (clock':=clock0+1) ?_ ?_ (by simp [h4])⟩
     ·unfold Instr.mapUpdate
      simp only [Sem.run_bind,run_underlying hu,Result.andThen_ok,getMap_run hb]
      rw [hck]
      simp only [Result.andThen_ok,hr',setMap_run _ hb]
     ·simp only [List.map_append,Array.toList_push]
      exact h1.append ⟨_,_,rfl,hk,rfl⟩
     ·simp only [List.map_append,Array.toList_push]
      exact h2.append ⟨_,_,rfl,hv,rfl⟩
   | some r =>
     obtain ⟨j,old,v'⟩:=r
     obtain ⟨m,e',g1,g2,g3,g4,g5,rfl⟩:=hfc
     simp only at h
     split at h
     ·rename_i hs
      cases h
      obtain ⟨hkv,hbits⟩:=keySame_sound hs g4 hk
      obtain rfl : m=j:=by omega
      have hcm : c[m]?=some e':=by simpa using g3
      refine ⟨{ x with w:=_ },?_,map_put hr hl hb (c':=c.modify m fun e=>{ e with key:=kv,val:=vv }) (clock':=clock0) ?_ ?_ (by rw [← h4]; exact modify_born c m)⟩
      ·unfold Instr.mapUpdate
       simp only [Sem.run_bind,run_underlying hu,Result.andThen_ok,getMap_run hb]
       rw [hck]
       have hks : (Instr.keyThatStays (((c[m]?).map (·.key)).getD kv) kv).run P x.w=.ok kv x.w:=by
        rw [hcm]
        unfold Instr.keyThatStays
        simp only [Option.map_some,Option.getD_some]
        rw [if_pos (hbits 9999)]
        rfl
       simp only [Result.andThen_ok,hr',hks,setMap_run _ hb,Sem.run_bind]
      ·have:=h1.set m hk
       have e1 : (es.set m (key,v)).map (·.1)=(es.map (·.1)).set m key:=by simp [List.map_set]
       rw [e1,modify_map (y:=kv) (fun e=>rfl)]
       exact this
      ·have:=h2.set m hv
       have e1 : (es.set m (key,v)).map (·.2)=(es.map (·.2)).set m v:=by simp [List.map_set]
       rw [e1,modify_map (y:=vv) (fun e=>rfl)]
       exact this
     ·cases h
  ·cases hf
 ·cases h
theorem delete_sound {x : Cx} {H H' : AH} (hr : Rel x H) {t u2 ty : TypeId} {a key : AV} {u kv : Value} (ha : R x a u) (hk : R x key kv) (h : adelete T H t a key=some H') :
  OutV x H H' (.tup []) ((Builtin.delete_ #[t,u2] ty #[u,kv]).run P x.w):=by
 have unit : ∀ y : Cx,R y (.tup []) (.tuple #[]):=fun y=>by simp only [R]; exact ⟨[],rfl,rfl⟩
 unfold adelete at h
 split at h
 ·rename_i k e hd
  split at h
  ·rename_i hok
   rw [Bool.and_eq_true] at hok
   cases h
   have hu:=(hT.ty t (by rw [hd]; rfl)).desc
   rw [hd] at hu
   simp only [DescOk] at hu
   simp only [R] at ha
   subst ha
   have hck:=checkKey_sound hT true 9998 hok.1 hok.2 hk x.w
   refine OutV.pure hr (unit x) ?_
   unfold Builtin.delete_
   simp only [List.getElem?_toArray,List.getElem?_cons_zero,List.getElem?_cons_succ,Sem.run_bind,run_underlying hu,Result.andThen_ok]
   rw [hck]
   rfl
  ·cases h
 ·rename_i k e l hd
  obtain ⟨es,bs0,clock0,hm0⟩ : ∃ es bs clock,amap H l=some (es,bs,clock):=by
   cases hm : amap H l with
   | none=>rw [hm] at h; simp at h
   | some m=>exact ⟨m.1,m.2.1,m.2.2,rfl⟩
  have he : aentries H (.map l)=some es:=by simp [aentries,hm0]
  have hf : ∃ r,afound T H t (.map l) key=some r:=by
   cases hf : afound T H t (.map l) key with
   | none=>rw [hf,hm0] at h; simp at h
   | some r=>exact ⟨r,rfl⟩
  obtain ⟨r,hf⟩:=hf
  rw [hf,hm0] at h
  unfold afound at hf
  rw [hd,he] at hf
  simp only at hf
  split at hf
  ·rename_i hok
   rw [Bool.and_eq_true] at hok
   have hu:=(hT.ty t (by rw [hd]; rfl)).desc
   rw [hd] at hu
   simp only [DescOk] at hu
   rcases entries_sound hr ha he with ⟨_,hn,_⟩|⟨l',c,bs,clock,hl',rfl,hm,hl,hb,h1,h2,h4⟩
   ·cases hn
   cases hl'
   obtain ⟨rfl,rfl⟩ : bs0=bs∧clock0=clock:=by rw [hm0] at hm; cases hm; exact ⟨rfl,rfl⟩
   obtain ⟨r',hr',hfc⟩:=findKey_sound hT hok.1 hk h1 h2 hf x.w
   have hck:=checkKey_sound hT c.isEmpty 9998 hok.1 hok.2 hk x.w
   cases r with
   | none =>
     simp only [FoundC] at hfc
     subst hfc
     cases h
     have hput:=map_put hr hl hb (c':=c) (clock':=clock0) h1 h2 h4
     rw [set_self hl] at hput
     refine ⟨.tuple #[],{ x with w:=_ },?_,hput.1,hput.2.1,hput.2.2,unit _⟩
     unfold Builtin.delete_
     simp only [List.getElem?_toArray,List.getElem?_cons_zero,List.getElem?_cons_succ,Sem.run_bind,run_underlying hu,Result.andThen_ok,getMap_run hb]
     rw [hck]
     simp only [Result.andThen_ok,hr',Sem.run_bind,setMap_run _ hb]
     rfl
   | some r =>
     obtain ⟨j,old,v'⟩:=r
     obtain ⟨m,e',g1,g2,g3,g4,g5,rfl⟩:=hfc
     cases h
     obtain rfl : m=j:=by omega
     have hm : m < c.size:=by have:=(List.getElem?_eq_some_iff.1 g3).1; simpa using this
     have e3 : ∀ (β : Type) (g : MapEntry→β),(c.eraseIdxIfInBounds m).toList.map g=(c.toList.map g).eraseIdx m:=fun β g=>by
      rw [Array.eraseIdxIfInBounds,dif_pos hm,Array.toList_eraseIdx,map_erase]
     have hput:=map_put hr hl hb (es':=es.eraseIdx m) (c':=c.eraseIdxIfInBounds m) (bs':=bs0.eraseIdx m) (clock':=clock0) (by rw [e3,map_erase]; exact h1.eraseIdx m) (by rw [e3,map_erase]; exact h2.eraseIdx m) (by rw [e3,h4])
     refine ⟨.tuple #[],{ x with w:=_ },?_,hput.1,hput.2.1,hput.2.2,unit _⟩
     unfold Builtin.delete_
     simp only [List.getElem?_toArray,List.getElem?_cons_zero,List.getElem?_cons_succ,Sem.run_bind,run_underlying hu,Result.andThen_ok,getMap_run hb]
     rw [hck]
     simp only [Result.andThen_ok,hr',Sem.run_bind,setMap_run _ hb]
     rfl
  ·cases hf
 ·cases h
theorem maplen_sound {x : Cx} {H : AH} (hr : Rel x H) {t ty : TypeId} {k e : TypeId} (hd : (T t).d=.map k e) {a v : AV} {u : Value} (ha : R x a u) (h : amaplen H a=some v) : OutV x H H v ((Builtin.len_ #[t] ty #[u]).run P x.w):=by
 unfold amaplen at h
 simp only [Option.map_eq_some_iff] at h
 obtain ⟨es,he,rfl⟩:=h
 have hu:=(hT.ty t (by rw [hd]; rfl)).desc
 rw [hd] at hu
 simp only [DescOk] at hu
 rcases entries_sound hr ha he with ⟨rfl,rfl,rfl⟩|⟨l,c,bs,clock,rfl,rfl,_,hl,hb,h1,h2,h4⟩
 ·exact OutV.pure hr rfl (by simp [Builtin.len_,run_underlying hu,goInt])
 ·have hlen : c.size=es.length:=by have:=h1.length; simpa using this
  exact OutV.pure (u:=.int .i64 es.length) hr rfl (by simp [Builtin.len_,run_underlying hu,goInt,getMap_run hb,hlen])
omit hT in
theorem makeMap_sound {x : Cx} {H : AH} (hr : Rel x H) (t : TypeId) :
  ∃ w',(Instr.makeMap t none).run P x.w=.ok (.map (some x.w.heap.size)) w'∧Mv x.N x H (x.new (x.w.heap.size,0) w') (H++[.map [] [] 0])∧Rel (x.new (x.w.heap.size,0) w') (H++[.map [] [] 0])∧Keeps x (x.new (x.w.heap.size,0) w')∧R (x.new (x.w.heap.size,0) w') (.map H.length) (.map (some x.w.heap.size)):=by
 have h:=hr.push (.map #[] 0) (.map [] [] 0) (x.w.alloc (.map #[] 0)) rfl rfl rfl rfl (fun _=>⟨x.new_ver _ _,#[],by rw [x.new_at]; show (x.w.heap.push _)[_]?=_; simp,by simp [RL],by simp [RL],rfl⟩)
 refine ⟨x.w.alloc (.map #[] 0),by simp [Instr.makeMap],h.1,h.2.1,h.2.2,?_⟩
 simp only [R]
 rw [← hr.N]
 refine ⟨Nat.lt_succ_self _,x.new_ver _ _,?_⟩
 rw [x.new_at]
end
end Go.Abs
