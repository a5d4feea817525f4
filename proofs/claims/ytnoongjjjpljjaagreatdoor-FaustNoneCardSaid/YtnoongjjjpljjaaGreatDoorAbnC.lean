/- A law's arguments, opened no further than what they say themselves. Words for walks that a program prints: typed values as abstract ones, and one step for each kind of operation. Steps of operations that may go wrong: what is to be known for each. Walks that a program prints: a piece of code is named by its place in the function's, and each step by its operation's place. One step for each kind of operation that may go wrong, or that the way hangs on: what is seen at its place, and what is to be known. '==' of structs and arrays, told without a way out. View shifts that a program prints: slots forgotten, blocks numbered anew, rows that are not written to any more made literals. Calls that are handed objects: blocks of the heap go along, come back changed, and new ones behind them. Rows that are written to, and maps, as typed values: one step for each kind of operation. Regions whose order is drawn, with operations that change the heap: these stand in a chain, and what is not bidden to come ahead of one of them comes to the same behind it. Slices without spare room become rows of one's own, or rows that may be written to. Parts of rows that are written to in place: typed steps that check the bounds as they go. The walker's steps under short names: what the kernel checks stands last, and is checked by itself. Parts of arrays as rows: cut out, copied to, made texts; rows that are made. Ranges over functions whose iterators keep cells of their own; calls by the kit's walk as abstr -/
import Derived.Test.YtnoongjjjpljjaaGreatDoorAbnB
import Derived.WideShapes
import Derived.KernelRfl
import Derived.RangeFuncOwn
import Derived.Test.YtnoongjjjpljjaaGreatDoorAbnA
namespace Go.Abs
inductive Kd where
 | int (k : IntKind)
 | str
 | bool
 | slice
abbrev Dt:=Int×List UInt8×Bool×Bool×Nat
def Kd.av (d : Dt) : Kd→AV
 | .int k=>.int k d.1
 | .str=>.str d.2.1
 | .bool=>.bool d.2.2.1
 | .slice=>.lit d.2.2.1 d.2.2.2.1 [] d.2.2.2.2
def mkCells (f : Nat→Dt) : List Kd→Nat→List AV
 | [],_=>[]
 | k::r,i=>k.av (f i)::mkCells f r (i+1)
def kindOf (P : Program) (t : TypeId) : Option Kd:=match P.underlying t with
 | some (.int k)=>some (.int k)
 | some .string=>some .str
 | some .bool=>some .bool
 | some (.slice _)=>some .slice
 | _=>none
def kindsOf (P : Program) (t : TypeId) : Option (Bool×List Kd):=match P.underlying t with
 | some (.struct _)|some (.array _ _)=>match P.cellTypes P.depth t with
   | some ts=>if P.cellsOf t=ts.length then (ts.mapM (kindOf P)).map (true,·) else none
   | none=>none
 | _=>(kindOf P t).map fun k=>(false,[k])
def argOf (P : Program) (t : TypeId) (f : Nat→Dt) : AV:=match kindsOf P t with
 | some (true,ks)=>.agg (mkCells f ks 0)
 | some (false,[k])=>k.av (f 0)
 | _=>.tup []
theorem cell_open {P : Program} {W : World} {base : Nat} {u : TypeId} {v : Value} {k : Kd} (hk : kindOf P u=some k) (h : Cell.okWide P W .any base u v) : ∃ d,R (Cx.start W) (k.av d) v∧(k.av d).isCell=true:=by
 unfold kindOf at hk
 unfold Cell.okWide at h
 split at hk
 ·rename_i k' hu
  cases hk
  rw [hu] at h
  cases v<;>simp [Cell.ok,hu] at h
  obtain ⟨rfl,_⟩:=h
  rename_i n _
  exact ⟨(n,[],false,false,0),by simp [Kd.av,R,AV.isCell]⟩
 ·rename_i hu
  cases hk
  rw [hu] at h
  cases v<;>simp [Cell.ok,hu] at h
  rename_i s
  exact ⟨(0,s.data.toList,false,false,0),by simp [Kd.av,R,AV.isCell]⟩
 ·rename_i hu
  cases hk
  rw [hu] at h
  cases v<;>simp [Cell.ok,hu] at h
  rename_i b
  exact ⟨(0,[],b,false,0),by simp [Kd.av,R,AV.isCell]⟩
 ·rename_i e hu
  cases hk
  rw [hu] at h
  cases v<;>simp [Cell.ok,hu] at h
  rename_i a len cap
  cases a with
  | none =>
    have h0 : len=0∧cap=0:=by
     cases len<;>cases cap<;>simp_all
    obtain ⟨rfl,rfl⟩:=h0
    exact ⟨(0,[],true,true,0),by simp [Kd.av,R,AV.isCell]⟩
  | some a =>
    obtain ⟨b,o,sp⟩:=a
    simp only [World.has] at h
    have hsp : sp=none:=h.2.2.2.1
    subst hsp
    refine ⟨(0,[],false,false,len),?_,rfl⟩
    simp only [Kd.av,R]
    refine .inr ⟨trivial,b,o,cap,[],rfl,h.1,?_,by simp,by simp [RL],by simp,.inl trivial,by simp⟩
    have h9:=h.2.1
    unfold maxLen
    omega
 ·cases hk
theorem row_open {P : Program} {W : World} {base : Nat} : ∀ {ts : List TypeId} {ks : List Kd} {cs : List Value} (off : Nat),ts.mapM (kindOf P)=some ks→cs.length=ts.length→(∀ (i : Nat) v,cs[i]?=some v→∃ u,ts[i]?=some u∧Cell.okWide P W .any base u v) →
  ∃ f : Nat→Dt,RL (Cx.start W) (mkCells f ks off) cs∧∀ a∈mkCells f ks off,a.isCell=true
 | [],ks,cs,off,hk,hl,_=>by
   simp at hk hl
   subst hk hl
   exact ⟨fun _=>(0,[],false,false,0),by simp [mkCells,RL],by simp [mkCells]⟩
 | t::ts,ks,cs,off,hk,hl,h=>by
   simp only [List.mapM_cons,Option.bind_eq_bind,Option.bind_eq_some_iff,Option.pure_def,Option.some.injEq] at hk
   obtain ⟨k,hk1,ks',hk2,rfl⟩:=hk
   cases cs with
   | nil=>simp at hl
   | cons v cs =>
     obtain ⟨u,hu,hv⟩:=h 0 v rfl
     simp at hu
     subst hu
     obtain ⟨d,hd,hdc⟩:=cell_open hk1 hv
     obtain ⟨f,hf,hfc⟩:=row_open (cs:=cs) (off+1) hk2 (by simpa using hl) (fun i v hi=>by
      obtain ⟨u,hu,hv⟩:=h (i+1) v (by simpa using hi)
      exact ⟨u,by simpa using hu,hv⟩)
     have hsame : ∀ (ks : List Kd) (m : Nat),off < m→mkCells (fun i=>if i=off then d else f i) ks m=mkCells f ks m:=by
      intro ks
      induction ks with
      | nil=>intro m _; rfl
      | cons k ks ih=>intro m hm; simp only [mkCells,ih (m+1) (by omega)]; rw [if_neg (by omega)]
     refine ⟨fun i=>if i=off then d else f i,?_,?_⟩
     ·simp only [mkCells,if_true]
      rw [hsame _ _ (by omega)]
      exact ⟨v,cs,rfl,hd,hf⟩
     ·intro a ha
      simp only [mkCells,if_true] at ha
      rw [hsame _ _ (by omega)] at ha
      rcases List.mem_cons.1 ha with rfl|ha
      ·exact hdc
      ·exact hfc a ha
theorem param_open {P : Program} {W : World} {base : Nat} {t : TypeId} {v : Value} (hk : (kindsOf P t).isSome=true) (h : Value.okWide P W .any base t v) : ∃ f : Nat→Dt,R (Cx.start W) (argOf P t f) v:=by
 have hrow : ∀ cs : Array Value,v=.agg cs→cs.size=P.cellsOf t→Row.okWide P W .any base t cs→(∃ ts ks,P.cellTypes P.depth t=some ts∧P.cellsOf t=ts.length∧ts.mapM (kindOf P)=some ks∧kindsOf P t=some (true,ks))→∃ f : Nat→Dt,R (Cx.start W) (argOf P t f) v:=by
  rintro cs rfl hsz ⟨ts',h1,h2,h3⟩ ⟨ts,ks,g1,g2,g3,g4⟩
  obtain rfl : ts=ts':=by rw [g1] at h1; cases h1; rfl
  have hlen : cs.toList.length=ts.length:=by simp [hsz,g2]
  obtain ⟨f,hf,hfc⟩:=row_open (base:=base) (cs:=cs.toList) 0 g3 hlen (fun i v hi=>by
   obtain ⟨u,hu,hv⟩:=h3 i v (by simpa using hi)
   have hlt:=(List.getElem?_eq_some_iff.1 hi).1
   rw [Nat.mod_eq_of_lt (by omega)] at hu
   exact ⟨u,hu,hv⟩)
  refine ⟨f,?_⟩
  unfold argOf
  rw [g4]
  simp only [R]
  exact ⟨hfc,cs.toList,by simp,hf⟩
 have hcell : ∀ k,kindOf P t=some k→kindsOf P t=some (false,[k])→Cell.okWide P W .any base t v→∃ f : Nat→Dt,R (Cx.start W) (argOf P t f) v:=by
  intro k h1 h2 h3
  obtain ⟨d,hd,_⟩:=cell_open h1 h3
  exact ⟨fun _=>d,by unfold argOf; rw [h2]; exact hd⟩
 unfold Value.okWide at h
 have hk':=hk
 unfold kindsOf at hk'
 split at hk'
 ·rename_i fs hu
  rw [hu] at h
  obtain ⟨cs,e,h1,h2⟩:=h
  refine hrow cs e h1 h2 ?_
  split at hk'
  ·rename_i ts ht
   split at hk'
   ·rename_i hc
    simp only [Option.isSome_map] at hk'
    obtain ⟨ks,hks⟩:=Option.isSome_iff_exists.1 hk'
    exact ⟨ts,ks,ht,hc,hks,by unfold kindsOf; simp only [hu,ht,hc,if_true,hks,Option.map_some]⟩
   ·cases hk'
  ·cases hk'
 ·rename_i n e hu
  rw [hu] at h
  obtain ⟨cs,e,h1,h2⟩:=h
  refine hrow cs e h1 h2 ?_
  split at hk'
  ·rename_i ts ht
   split at hk'
   ·rename_i hc
    simp only [Option.isSome_map] at hk'
    obtain ⟨ks,hks⟩:=Option.isSome_iff_exists.1 hk'
    exact ⟨ts,ks,ht,hc,hks,by unfold kindsOf; simp only [hu,ht,hc,if_true,hks,Option.map_some]⟩
   ·cases hk'
  ·cases hk'
 ·rename_i h1 h2
  simp only [Option.isSome_map] at hk'
  obtain ⟨k,hkk⟩:=Option.isSome_iff_exists.1 hk'
  refine hcell k hkk ?_ ?_
  ·unfold kindsOf
   split
   ·rename_i hu; exact absurd hu (h1 _)
   ·rename_i hu; exact absurd hu (h2 _ _)
   ·rw [hkk]; rfl
  ·split at h
   ·rename_i hu; exact absurd hu (h1 _)
   ·rename_i hu; exact absurd hu (h2 _ _)
   ·exact h
theorem RL.nil' {x : Cx} : RL x [] []:=by simp [RL]
theorem RL.cons' {x : Cx} {a : AV} {v : Value} {as : List AV} {vs : List Value} (h : R x a v) (h2 : RL x as vs) : RL x (a::as) (v::vs):=⟨v,vs,rfl,h,h2⟩
end Go.Abs
namespace Go.Abs
structure Sl (α : Type) where
 nl : Bool
 ex : Bool
 l : List α
def sl {α : Type} (c : α→List AV) (x : Sl α) : AV:=.lit x.nl x.ex (x.l.flatMap c) x.l.length
def ownv {α : Type} (c : α→List AV) (l ver sz : Nat) (x : Sl α) : AV:=.own l ver x.nl (x.l.flatMap c) x.l.length sz
def cI (k : IntKind) (n : Int) : List AV:=[.int k n]
def cS (s : List UInt8) : List AV:=[.str s]
structure Arr (n : Nat) where
 l : List Int
 h : l.length=n
def cA (k : IntKind) {n : Nat} (a : Arr n) : List AV:=(List.range n).map fun i=>.int k (a.l.getD i 0)
def Arr.zero (n : Nat) : Arr n:=⟨List.replicate n 0,by simp⟩
def Arr.set {n : Nat} (a : Arr n) (i : Nat) (v : Int) : Arr n:=⟨a.l.set i v,by simp [a.h]⟩
theorem Arr.ext' {n : Nat} {a b : Arr n} (h : a.l=b.l) : a=b:=by cases a; cases b; simp at h; subst h; rfl
instance {n : Nat} : DecidableEq (Arr n):=fun a b=>if h : a.l=b.l then .isTrue (Arr.ext' h) else .isFalse fun e=>h (by rw [e])
def iAdd (k : IntKind) (a b : Int) : Int:=k.wrap (a+b)
def iSub (k : IntKind) (a b : Int) : Int:=k.wrap (a - b)
def iMul (k : IntKind) (a b : Int) : Int:=k.wrap (a * b)
def iQuo (k : IntKind) (a b : Int) : Int:=k.wrap (a.tdiv b)
def iAnd (k : IntKind) (a b : Int) : Int:=k.wrap (BitVec.ofInt k.bits a &&& BitVec.ofInt k.bits b).toNat
def iOr (k : IntKind) (a b : Int) : Int:=k.wrap (BitVec.ofInt k.bits a ||| BitVec.ofInt k.bits b).toNat
def iXor (k : IntKind) (a b : Int) : Int:=k.wrap (BitVec.ofInt k.bits a ^^^ BitVec.ofInt k.bits b).toNat
def iNot (k : IntKind) (a : Int) : Int:=k.wrap (BitVec.ofInt k.bits (if k.signed then -1 else k.max) ^^^ BitVec.ofInt k.bits a).toNat
def iNeg (k : IntKind) (a : Int) : Int:=k.wrap (0 - a)
def iShl (k : IntKind) (a b : Int) : Int:=k.wrap (a * 2 ^ min b.toNat k.bits)
def iShr (k : IntKind) (a b : Int) : Int:=a.fdiv (2 ^ min b.toNat k.bits)
def iLt (a b : Int) : Bool:=!ile b a
def iGt (a b : Int) : Bool:=!ile a b
def iGe (a b : Int) : Bool:=ile b a
def idxB (s : List UInt8) (i : Int) : Option Int:=if 0≤i then (s[i.toNat]?).map fun b=>(b.toNat : Int) else none
def idxL {α : Type} (l : List α) (i : Int) : Option α:=if 0≤i then l[i.toNat]? else none
def catS (a b : List UInt8) : Option (List UInt8):=if a.length+b.length≤9223372036854775807 then some (a++b) else none
def boundI (v : Option Int) (d : Nat) : Option Nat:=match v with
 | some n=>if 0≤n then some n.toNat else none
 | none=>some d
def cutS (s : List UInt8) (lo hi : Option Int) : Option (List UInt8):=match boundI lo 0,boundI hi s.length with
 | some l,some h=>if l≤h∧h≤s.length then some ((s.take h).drop l) else none
 | _,_=>none
def cutL {α : Type} (x : Sl α) (lo hi mx : Option Int) : Option (Sl α):=match boundI lo 0,boundI hi x.l.length,boundI mx x.l.length with
 | some l,some h,some m=>if l≤h∧h≤m∧m≤x.l.length then some ⟨x.nl,if mx.isSome then m==h else x.ex&&h==x.l.length,(x.l.take h).drop l⟩ else none
 | _,_,_=>none
def moreOk (bytes n m : Nat) : Bool:=decide (n+m≤maxLen)&&decide ((n+m) * bytes≤140737488355328)
def appL {α : Type} (bytes : Nat) (x : Sl α) (ys : List α) : Option (Sl α):=if moreOk bytes x.l.length ys.length then some ⟨x.nl&&ys.length==0,false,x.l++ys⟩ else none
def bytesS (l : List Int) : List UInt8:=l.map fun n=>UInt8.ofNat n.toNat
def intsS (s : List UInt8) : List Int:=s.map fun b=>(b.toNat : Int)
def toBytes (s : List UInt8) : Option (Sl Int):=if s.length≤maxLen then some ⟨false,false,intsS s⟩ else none
def shlI (k : IntKind) (a b : Int) : Option Int:=if b < 0 then none else some (iShl k a b)
def shrI (k : IntKind) (a b : Int) : Option Int:=if b < 0 then none else some (iShr k a b)
theorem ite_elim {α : Type} {c : Bool} {A B : Option α} {r : α} {G : Prop} (h : (if c=true then A else B)=some r) (h1 : c=true→A=some r→G) (h2 : c=false→B=some r→G) : G:=by
 cases c with
 | true=>exact h1 rfl h
 | false=>exact h2 rfl h
theorem bind_elim {α β : Type} {o : Option α} {K : α→Option β} {r : β} {G : Prop} (h : o.bind K=some r) (g : ∀ x,o=some x→K x=some r→G) : G:=by
 cases o with
 | none=>cases h
 | some x=>exact g x rfl h
section
variable {T : TT} {G : Nat→Option (List AV)} {C : ACall} {mx : Bool} {n : Nat} {fr : List AV} {H : AH} {Q : APost}
theorem then_n {b : List AV→AH→Prop} (h : b fr H) : AX.then b Q .normal fr H:=h
theorem then_e {b : List AV→AH→Prop} {id : Nat} (h : Q (.exit id) fr H) : AX.then b Q (.exit id) fr H:=h
theorem block_n {id : Nat} (h : Q .normal fr H) : AX.inBlock id Q .normal fr H:=h
theorem block_e {id : Nat} (h : Q .normal fr H) : AX.inBlock id Q (.exit id) fr H:=by show (if id=id then _ else _); rw [if_pos rfl]; exact h
variable {A : Array Oper} {K : List AV→AH→Prop} {L : List Oper}
theorem from_cons {i : Nat} {o : Oper} (h : L[i]?=some o) : L.drop i=o::L.drop (i+1):=by
 obtain ⟨h1,h2⟩:=List.getElem?_eq_some_iff.1 h
 rw [← h2]
 exact List.drop_eq_getElem_cons h1
theorem go_loop {P : Program} {c : Code} (I : Nat→List AV→AH→Prop) (hz : ∀ fr H,¬ I 0 fr H) (hs : ∀ d fr H,I (d+1) fr H→ev T G mx (EvCall P T G) n c fr H (AX.then (fun fr H=>∃ fr2 H2,VS n fr H fr2 H2∧I d fr2 H2) Q)) : ∀ m fr H,I m fr H→ev T G mx (EvCall P T G) n (.loop c) fr H Q:=by
 intro m
 induction m with
 | zero=>exact fun fr H h=>absurd h (hz fr H)
 | succ d ih =>
   intro fr H h
   refine loop_round ?_
   refine ev_mono (C:=EvCall P T G) (C':=EvCall P T G) (fun f args H k k' hk hc=>EvCall.mono hk hc) _ _ _ _ _ (fun e fr' H' he=>?_) (hs d fr H h)
   cases e with
   | normal=>obtain ⟨fr2,H2,hv,hj⟩:=he; exact loop_shift hv (ih _ _ hj)
   | exit id=>exact he
   | ret=>exact he
end
def AV.forget : AV→AV
 | .bool b=>.bool b
 | _=>.any
theorem imp_forget {a : AV} : Imp a a.forget:=by
 cases a<;>first|exact Imp.rfl|exact Imp.any (fun b e=>by cases e)
def forget : List Bool→List AV→List AV
 | b::bs,a::as=>(bif b then a.forget else a)::forget bs as
 | _,as=>as
def wf (H : AH) : Bool:=H.all fun b=>b.low H.length
theorem wf_spec {H : AH} (h : wf H=true) : WF H:=fun b hb=>by
 unfold wf at h
 rw [List.all_eq_true] at h
 exact h b hb
theorem ImpH.refl : ∀ (H : AH),ImpH H H
 | []=>trivial
 | _::H=>⟨.inl rfl,ImpH.refl H⟩
def AV.plain : AV→AV
 | .tup cs=>.tup (cs.map AV.weak)
 | a=>a.weak
theorem imp_weak {a : AV} : Imp a a.weak:=fun _ _ h=>h.weak
theorem imp_weaks : ∀ (as : List AV),ImpL as (as.map AV.weak)
 | []=>trivial
 | _::as=>⟨imp_weak,imp_weaks as⟩
theorem imp_plain {a : AV} : Imp a a.plain:=by
 cases a with
 | tup cs =>
   intro x v h
   simp only [AV.plain,R] at *
   obtain ⟨vs,e,hl⟩:=h
   exact ⟨vs,e,(imp_weaks cs).rl hl⟩
 | _=>exact imp_weak
theorem VS.fin {n : Nat} {r r2 : AV} {H H2 : AH} (h1 : r.plain=r2) (h2 : H.take H2.length=H2) (hn : n≤H2.length) (hl : r2.low H2.length=true) (hw : wf H2=true) : VS n [r] H [r2] H2:=by
 subst h1
 have h3 : ImpL [r] [r.plain]:=⟨imp_plain,trivial⟩
 refine (VS.imp h3 (ImpH.refl H)).trans ?_
 have:=VS.drop (n:=n) (fr:=[r.plain]) (H:=H2) (G:=H.drop H2.length) hn (wf_spec hw) (by simp [lows,hl])
 have e : H2++H.drop H2.length=H:=by
  conv=>lhs; lhs; rw [← h2]
  exact List.take_append_drop _ _
 rwa [e] at this
theorem call_pure {P : Program} {T : TT} {G : Nat→Option (List AV)} {f : FuncId} {args : List AV} {V : AV} {H : AH} {k : AV→AH→Prop} (ha : lows 0 args=true) (hv : V.low 0=true) (h : EvCall P T G f args [] (fun v H'=>v=V∧H'=[])) (hk : k V H) : EvCall P T G f args H k :=
 EvCall.hide ha h (fun r H' h=>by rw [h.1]; exact hv) H (fun r H' h=>by rw [h.1]; exact hk)
theorem low_flat {α : Type} {c : α→List AV} {n : Nat} (hc : ∀ x,lows n (c x)=true) : ∀ (l : List α),lows n (l.flatMap c)=true
 | []=>rfl
 | a::l=>by rw [List.flatMap_cons,lows_iff]; intro b hb; rcases List.mem_append.1 hb with h|h; exact lows_iff.1 (hc a) b h; exact lows_iff.1 (low_flat hc l) b h
theorem low_sl {α : Type} {c : α→List AV} {n : Nat} {x : Sl α} (hc : ∀ x,lows n (c x)=true) : (sl c x).low n=true:=low_flat hc _
theorem low_cI {k : IntKind} {n : Nat} (x : Int) : lows n (cI k x)=true:=rfl
theorem low_cA {k : IntKind} {m n : Nat} (x : Arr m) : lows n (cA k x)=true:=by
 rw [lows_iff]
 intro a ha
 obtain ⟨i,_,rfl⟩:=List.mem_map.1 ha
 rfl
end Go.Abs
namespace Go.Abs
section
variable {T : TT} {G : Nat→Option (List AV)} {fr : List AV} {H : AH}
theorem op_index_str {t : TypeId} {x i : Operand} {k : IntKind} {s : List UInt8} {n v : Int} (hx : aval G fr x=some (.str s)) (hi : aval G fr i=some (.int k n)) (ht : (T t).d=.str) (h : idxB s n=some v) : aop T G fr H (.index t x i)=some (.int .u8 v,H):=by
 simp only [aop,hx,hi,aindex,ht]
 unfold idxB at h
 split at h
 ·rename_i h0
  simp only [Option.map_eq_some_iff] at h
  obtain ⟨b,hb,rfl⟩:=h
  simp [h0,hb]
 ·cases h
theorem flat_len {α : Type} {c : α→List AV} {sz : Nat} (hc : ∀ y,(c y).length=sz) : ∀ l : List α,(l.flatMap c).length=l.length * sz
 | []=>by simp
 | a::l=>by rw [List.flatMap_cons,List.length_append,flat_len hc l,hc,List.length_cons,Nat.add_mul]; omega
theorem flat_at {α : Type} {c : α→List AV} {sz : Nat} (hc : ∀ y,(c y).length=sz) : ∀ (l : List α) (i : Nat) (y : α),l[i]?=some y→∃ rest,(l.flatMap c).drop (i * sz)=c y++rest
 | [],i,y,h=>by simp at h
 | a::l,0,y,h=>by
   simp at h
   subst h
   exact ⟨l.flatMap c,by simp⟩
 | a::l,i+1,y,h=>by
   simp at h
   obtain ⟨rest,hr⟩:=flat_at hc l i y h
   refine ⟨rest,?_⟩
   rw [List.flatMap_cons,Nat.add_mul,Nat.one_mul,Nat.add_comm,← List.drop_drop,List.drop_left' (hc a)]
   exact hr
theorem idxL_spec {α : Type} {l : List α} {n : Int} {y : α} (h : idxL l n=some y) : 0≤n∧l[n.toNat]?=some y∧n.toNat < l.length:=by
 unfold idxL at h
 split at h
 ·rename_i h0
  exact ⟨h0,h,(List.getElem?_eq_some_iff.1 h).1⟩
 ·cases h
theorem op_iaddr {α : Type} {c : α→List AV} {t e : TypeId} {x i : Operand} {k : IntKind} {nl ex : Bool} {l : List α} {n : Int} {y : α} {sz : Nat} (hx : aval G fr x=some (.lit nl ex (l.flatMap c) l.length)) (hi : aval G fr i=some (.int k n)) (ht : (T t).d=.slice e) (hs : (T e).size=sz) (h0 : 0 < sz) (hc : ∀ y,(c y).length=sz) (h : idxL l n=some y) :
  aop T G fr H (.indexAddr t x i)=some (.lptr (l.flatMap c) (n.toNat * sz),H):=by
 obtain ⟨h1,h2,h3⟩:=idxL_spec h
 simp only [aop,hx,hi,aindexAddr,ht]
 rw [if_pos ⟨h1,by omega,by rw [flat_len hc,hs]; exact Nat.le_refl _,by omega⟩,hs]
 rfl
theorem op_iaddr_own {α : Type} {c : α→List AV} {t e : TypeId} {x i : Operand} {k : IntKind} {nl : Bool} {l : List α} {n : Int} {y : α} {sz l0 ver sz0 : Nat} (hx : aval G fr x=some (.own l0 ver nl (l.flatMap c) l.length sz0)) (hi : aval G fr i=some (.int k n)) (ht : (T t).d=.slice e) (hs : (T e).size=sz) (h0 : 0 < sz) (hc : ∀ y,(c y).length=sz) (h : idxL l n=some y) :
  aop T G fr H (.indexAddr t x i)=some (.lptr (l.flatMap c) (n.toNat * sz),H):=by
 obtain ⟨h1,h2,h3⟩:=idxL_spec h
 simp only [aop,hx,hi,aindexAddr,ht]
 rw [if_pos ⟨h1,by omega,by rw [flat_len hc,hs]; exact Nat.le_refl _,by omega⟩,hs]
 rfl
theorem op_load_el {α : Type} {c : α→List AV} {t : TypeId} {a : Operand} {l : List α} {n : Int} {y : α} {sz fo : Nat} {v : AV} (ha : aval G fr a=some (.lptr (l.flatMap c) (n.toNat * sz+fo))) (hc : ∀ y,(c y).length=sz) (h : idxL l n=some y) (hp : apart T t (c y) fo=some v) (hfo : fo+(T t).size≤sz) (hf1 : fo < sz) :
  aop T G fr H (.load t a)=some (v,H):=by
 obtain ⟨h1,h2,h3⟩:=idxL_spec h
 obtain ⟨rest,hr⟩:=flat_at hc l _ _ h2
 have hlen:=flat_len hc l
 simp only [aop,ha,Option.bind_some,aload]
 have hle : n.toNat * sz+sz≤l.length * sz:=by
  rw [← Nat.succ_mul]
  exact Nat.mul_le_mul_right _ h3
 have key : apart T t (l.flatMap c) (n.toNat * sz+fo)=apart T t (c y) fo:=by
  unfold apart
  have hd : (l.flatMap c).drop (n.toNat * sz+fo)=(c y++rest).drop fo:=by rw [← List.drop_drop,hr]
  split
  ·split
   ·rw [if_pos (by rw [hlen]; omega),if_pos (by rw [hc]; omega),hd,List.drop_append_of_le_length (by rw [hc]; omega),List.take_append_of_le_length (by rw [List.length_drop,hc]; omega)]
   ·have e1 : (l.flatMap c)[n.toNat * sz+fo]?=((l.flatMap c).drop (n.toNat * sz))[fo]?:=by rw [List.getElem?_drop]
    rw [e1,hr,List.getElem?_append_left (by rw [hc]; exact hf1)]
  ·rfl
 rw [key,hp]
 rfl
theorem op_cat {t u : TypeId} {x y : Operand} {a b s : List UInt8} (hx : aval G fr x=some (.str a)) (hy : aval G fr y=some (.str b)) (h : catS a b=some s) : aop T G fr H (.binOp .add t x y u)=some (.str s,H):=by
 unfold catS at h
 split at h
 ·rename_i hl
  cases h
  simp [aop,hx,hy,abin,astr,hl]
 ·cases h
theorem op_cut {t : TypeId} {x : Operand} {lo hi : Option Operand} {s r : List UInt8} {l h : Option Int} {kl kh : IntKind} (hx : aval G fr x=some (.str s)) (hlo : lo.mapM (aval G fr)=some (l.map (.int kl ·))) (hhi : hi.mapM (aval G fr)=some (h.map (.int kh ·))) (ht : (T t).d=.str) (hr : cutS s l h=some r) :
  aop T G fr H (.slice t x lo hi none)=some (.str r,H):=by
 have hb : ∀ (v : Option Int) (k : IntKind) (d : Nat),boundOf (v.map (AV.int k ·)) d=boundI v d:=fun v k d=>by
  cases v with
  | none=>rfl
  | some n=>simp [boundOf,numOf,boundI]
 have h0 : (none : Option Operand).mapM (aval G fr)=some none:=rfl
 simp only [aop,hx,hlo,hhi,h0,aslice,ht,hb]
 unfold cutS at hr
 split at hr
 ·rename_i a b h1 h2
  rw [h1,h2]
  split at hr
  ·rename_i hc
   cases hr
   simp [hc]
  ·cases hr
 ·cases hr
theorem flat_take {α : Type} {c : α→List AV} {sz : Nat} (hc : ∀ y,(c y).length=sz) : ∀ (l : List α) (h : Nat),(l.flatMap c).take (h * sz)=(l.take h).flatMap c
 | l,0=>by simp
 | [],h+1=>by simp
 | a::l,h+1=>by
   rw [List.flatMap_cons,List.take_succ_cons,List.flatMap_cons,Nat.add_mul,Nat.one_mul,Nat.add_comm,← hc a,List.take_length_add_append,hc a,flat_take hc l h]
theorem flat_drop {α : Type} {c : α→List AV} {sz : Nat} (hc : ∀ y,(c y).length=sz) : ∀ (l : List α) (h : Nat),(l.flatMap c).drop (h * sz)=(l.drop h).flatMap c
 | l,0=>by simp
 | [],h+1=>by simp
 | a::l,h+1=>by
   rw [List.flatMap_cons,List.drop_succ_cons,Nat.add_mul,Nat.one_mul,Nat.add_comm,← hc a,List.drop_length_add_append,hc a,flat_drop hc l h]
theorem mapM_bytes {k : IntKind} : ∀ (l : List Int),(l.flatMap (cI .u8)).mapM byteOf?=some (bytesS l)
 | []=>rfl
 | a::l=>by
   rw [List.flatMap_cons]
   simp only [cI,List.cons_append,List.nil_append,List.mapM_cons,byteOf?,mapM_bytes (k:=k) l]
   rfl
theorem flat_cI {k : IntKind} (l : List Int) : (l.flatMap (cI k)).length=l.length:=by
 rw [flat_len (sz:=1) (fun _=>rfl)]; omega
theorem op_string {t u e : TypeId} {x : Operand} {nl ex : Bool} {l : List Int} (hx : aval G fr x=some (.lit nl ex (l.flatMap (cI .u8)) l.length)) (hk : (T t).d.known=true) (ht : (T t).d=.slice e) (he : (T e).d=.int .u8) (hu : (T u).d=.str) : aop T G fr H (.convert t u x)=some (.str (bytesS l),H):=by
 have hl:=flat_cI (k:=.u8) l
 have hkk:=hk
 rw [ht] at hkk
 simp only [aop,hx,Option.bind_some,aconvert,ht,hkk,if_true,hu,alen,he,acells,Nat.mul_one,hl,Nat.le_refl]
 rw [List.take_of_length_le (by rw [hl]; exact Nat.le_refl _)]
 simp only [mapM_bytes (k:=.u8)]
 rfl
theorem op_string_own {t u e : TypeId} {x : Operand} {nl : Bool} {l0 ver sz0 : Nat} {l : List Int} (hx : aval G fr x=some (.own l0 ver nl (l.flatMap (cI .u8)) l.length sz0)) (hk : (T t).d.known=true) (ht : (T t).d=.slice e) (he : (T e).d=.int .u8) (hu : (T u).d=.str) : aop T G fr H (.convert t u x)=some (.str (bytesS l),H):=by
 have hl:=flat_cI (k:=.u8) l
 have hkk:=hk
 rw [ht] at hkk
 simp only [aop,hx,Option.bind_some,aconvert,ht,hkk,if_true,hu,alen,he,acells,Nat.mul_one,hl,Nat.le_refl]
 rw [List.take_of_length_le (by rw [hl]; exact Nat.le_refl _)]
 simp only [mapM_bytes (k:=.u8)]
 rfl
theorem moreOk_spec {b n m : Nat} (h : moreOk b n m=true) : n+m≤maxLen∧(n+m) * b≤140737488355328:=by
 unfold moreOk at h
 simpa using h
def Gives (T : TT) (H : AH) (e : TypeId) (cs : List AV) (m : Nat) (y : AV) : Prop:=alen y=some m∧acells H (m * (T e).size) y=some cs∧feeds (T e).size y=true
theorem gives_sl {α : Type} {c : α→List AV} {e : TypeId} {sz : Nat} {x : Sl α} (hs : (T e).size=sz) (hc : ∀ y,(c y).length=sz) : Gives T H e (x.l.flatMap c) x.l.length (sl c x):=by
 refine ⟨rfl,?_,by cases h : (T e).size<;>rfl⟩
 simp only [acells,sl]
 rw [if_pos (by rw [flat_len hc,hs]; exact Nat.le_refl _),List.take_of_length_le (by rw [flat_len hc,hs]; exact Nat.le_refl _)]
theorem gives_own {α : Type} {c : α→List AV} {e : TypeId} {sz l0 ver sz0 : Nat} {nl : Bool} {l : List α} (hs : (T e).size=sz) (hc : ∀ y,(c y).length=sz) : Gives T H e (l.flatMap c) l.length (.own l0 ver nl (l.flatMap c) l.length sz0):=by
 refine ⟨rfl,?_,rfl⟩
 simp only [acells]
 rw [if_pos (by rw [flat_len hc,hs]; exact Nat.le_refl _),List.take_of_length_le (by rw [flat_len hc,hs]; exact Nat.le_refl _)]
theorem op_app {α : Type} {c : α→List AV} {t u e : TypeId} {a b : Operand} {l0 ver bytes : Nat} {real : Bool} {x r : Sl α} {ys : List α} {y : AV} {sz : Nat} (ha : aval G fr a=some (ownv c l0 ver sz x)) (hb : aval G fr b=some y) (ht : (T t).d=.slice e) (hu : (T u).d.row=true) (hs : (T e).size=sz) (h0 : 0 < sz) (hby : (T e).bytes=bytes)
  (hy : Gives T H e (ys.flatMap c) ys.length y) (hr : roomAt H l0 ver=some real) (h : appL bytes x ys=some r) :
  aop T G fr H (.call { callee:=.builtin .append,args:=#[a,b],argTypes:=#[t,u] })=some (ownv c l0 (ver+1) sz r,H.set l0 (.room (ver+1) (real || !(ys.length==0)))):=by
 unfold appL at h
 split at h
 ·rename_i hm
  cases h
  obtain ⟨m1,m2⟩:=moreOk_spec hm
  obtain ⟨y1,y2,y3⟩:=hy
  have hf : fitsMore T e x.l.length ys.length:=⟨by omega,m1,by rw [hby]; exact m2⟩
  rw [hs] at y2 y3
  simp only [aop,List.mapM_cons,List.mapM_nil,ha,hb,Option.pure_def,Option.bind_eq_bind,Option.bind_some,abuiltin,aappend,ht]
  simp only [ownv,hu,y3,notStr,and_self,if_true,y1,y2,hr,hf,hs]
  simp [List.flatMap_append]
 ·cases h
theorem alt_app {α : Type} {c : α→List AV} {t u e : TypeId} {a b : Operand} {bytes : Nat} {x r : Sl α} {ys : List α} {y : AV} {sz : Nat} (ha : aval G fr a=some (sl c x)) (hex : x.ex=true) (hb : aval G fr b=some y) (ht : (T t).d=.slice e) (hu : (T u).d.row=true) (hs : (T e).size=sz) (h0 : 0 < sz) (hc : ∀ y,(c y).length=sz) (hby : (T e).bytes=bytes)
  (hy : Gives T H e (ys.flatMap c) ys.length y) (h : appL bytes x ys=some r) :
  aalt T G fr H 0 (.call { callee:=.builtin .append,args:=#[a,b],argTypes:=#[t,u] })=some (ownv c H.length 1 sz r,H++[.room 1 (!(ys.length==0))]):=by
 unfold appL at h
 split at h
 ·rename_i hm
  cases h
  obtain ⟨m1,m2⟩:=moreOk_spec hm
  obtain ⟨y1,y2,y3⟩:=hy
  have hf : fitsMore T e x.l.length ys.length:=⟨by omega,m1,by rw [hby]; exact m2⟩
  rw [hs] at y2 y3
  simp only [aalt,List.mapM_cons,List.mapM_nil,ha,hb,Option.pure_def,Option.bind_eq_bind,Option.bind_some,aappendF,ht]
  simp only [sl,ownv,hu,y3,and_self,if_true,hex,y1,y2,hf,hs,flat_len hc,beq_self_eq_true]
  simp [List.flatMap_append]
 ·cases h
theorem alt_bytes {t u e : TypeId} {x : Operand} {s : List UInt8} {r : Sl Int} (hx : aval G fr x=some (.str s)) (hk : (T t).d.known=true) (hu : (T u).d=.slice e) (he : (T e).d=.int .u8) (hs : (T e).size=1) (h : toBytes s=some r) : aalt T G fr H 0 (.convert t u x)=some (ownv (cI .u8) H.length 1 1 r,H++[.room 1 true]):=by
 unfold toBytes at h
 split at h
 ·rename_i hl
  cases h
  have : (intsS s).flatMap (cI .u8)=s.map fun b=>.int .u8 b.toNat:=by
   unfold intsS
   clear hx hl
   induction s with
   | nil=>rfl
   | cons a s ih=>rw [List.map_cons,List.flatMap_cons,ih]; rfl
  simp only [aalt,hx,Option.bind_some,aconvertF,hk,if_true,hu,he,hl,hs,and_self,ownv,this]
  simp [intsS]
 ·cases h
end
end Go.Abs
namespace Go.Abs
def loopN {σ ρ : Type} (B : (σ→Option ρ)→σ→Option ρ) : Nat→σ→Option ρ
 | 0,_=>none
 | d+1,x=>B (loopN B d) x
def FUEL : Nat:=18446744073709551616
theorem loop_in {σ ρ : Type} {B : (σ→Option ρ)→σ→Option ρ} {d : Nat} {x : σ} {r : ρ} (h : loopN B (d+1) x=some r) : B (loopN B d) x=some r:=h
theorem loop_no {σ ρ : Type} {B : (σ→Option ρ)→σ→Option ρ} {x : σ} {r : ρ} (h : loopN B 0 x=some r) : False:=by cases h
def bodyOf (fn : Func) : Code:=fn.body.getD .skip
def _root_.Go.Code.l : Code→Code
 | .seq a _|.cond _ a _|.block _ a|.loop a|.scope a=>a
 | _=>.skip
def _root_.Go.Code.r : Code→Code
 | .seq _ b|.cond _ _ b=>b
 | _=>.skip
def _root_.Go.Code.ops : Code→List Oper
 | .region _ ops _=>ops.toList
 | _=>[]
def _root_.Go.Code.num : Code→Nat
 | .region id _ _|.block id _|.exit id|.label id=>id
 | _=>0
def _root_.Go.Code.opnd : Code→Operand
 | .cond c _ _=>c
 | _=>.tmp 0
def _root_.Go.Code.kind : Code→Nat
 | .skip=>0
 | .region _ _ false=>1
 | .region _ _ true=>2
 | .seq _ _=>3
 | .cond _ _ _=>4
 | .block _ _=>5
 | .loop _=>6
 | .exit _=>7
 | .scope _=>8
 | .label _=>9
 | .ret=>10
 | _=>11
def evW (T : TT) (G : Nat→Option (List AV)) (C : ACall) (A : Array Oper) (q : Bool) (K : List AV→AH→Prop) : List Oper→List AV→AH→Prop
 | [],fr,H=>K fr H
 | o::rest,fr,H=>if Region.wanted o (ayielded A fr)=true then ∃ v H',(∀ k : AV→AH→Prop,k v H'→evOp T G C fr H o.op k)∧(q=true→H'=H)∧evW T G C A q K rest (aput fr o.dst v) H'
     else evW T G C A q K rest (aput fr o.dst (.tup [])) H
def evAt (T : TT) (G : Nat→Option (List AV)) (C : ACall) (A : Array Oper) (q : Bool) (K : List AV→AH→Prop) (L : List Oper) (i : Nat) (fr : List AV) (H : AH) : Prop:=evW T G C A q K (L.drop i) fr H
section
variable {T : TT} {G : Nat→Option (List AV)} {C : ACall} {A : Array Oper} {q : Bool} {K : List AV→AH→Prop} {mx : Bool} {n : Nat} {fr : List AV} {H : AH} {Q : APost} {L : List Oper}
theorem evW_list : ∀ {l : List Oper} {fr : List AV} {H : AH},evW T G C A q K l fr H→evList T G C A K l fr H
 | [],_,_,h=>h
 | o::rest,fr,H,h=>by
   unfold evW at h
   unfold evList
   split at h
   ·rename_i hw
    obtain ⟨v,H',h1,_,h2⟩:=h
    rw [if_pos hw]
    exact h1 _ (evW_list h2)
   ·rename_i hw
    rw [if_neg hw]
    exact evW_list h
def AtEnd (T : TT) (G : Nat→Option (List AV)) (C : ACall) (A : Array Oper) (H : AH) (fr F : List AV) (l : List Oper) : Prop :=
 fr.length=F.length∧(∀ k,(∀ o∈l,o.dst≠some k)→F[k]?=fr[k]?)∧(steady A fr.length l=true→∀ o∈l,chkC1 T G C A.toList F H o)
theorem atEnd_cons {o : Oper} {rest : List Oper} {F : List AV} {v : AV} (hw1 : Region.wanted o (ayielded A fr)=true→∀ k : AV→AH→Prop,k v H→evOp T G C fr H o.op k) (hw2 : Region.wanted o (ayielded A fr)=false→v=.tup []) (h : AtEnd T G C A H (aput fr o.dst v) F rest) : AtEnd T G C A H fr F (o::rest):=by
 have put : (aput fr o.dst v).length=fr.length∧∀ k,o.dst≠some k→(aput fr o.dst v)[k]?=fr[k]?:=by
  unfold aput
  cases hd : o.dst with
  | none=>exact ⟨rfl,fun _ _=>rfl⟩
  | some d=>exact ⟨List.length_set,fun k hk=>by rw [List.getElem?_set_ne (fun e=>hk (by rw [e]))]⟩
 obtain ⟨hl,hk,hs⟩:=h
 refine ⟨put.1.symm.trans hl,fun k hk'=>(hk k fun o' h'=>hk' o' (List.mem_cons_of_mem _ h')).trans (put.2 k (hk' o (by simp))),fun hst o' ho'=>?_⟩
 simp only [steady,Bool.and_eq_true] at hst
 obtain ⟨hs1,hs2⟩:=hst
 cases hd : o.dst with
 | none=>rw [hd] at hs1; simp at hs1
 | some d =>
   rw [hd] at hs1
   simp only [Bool.and_eq_true,List.all_eq_true,Bool.not_eq_true',Nat.ble_eq] at hs1
   obtain ⟨⟨hlt,hdl⟩,hr'⟩:=hs1
   have hdl' : d ∉ o.looksAt A:=fun hm=>by rw [List.contains_eq_mem,decide_eq_false_iff_not] at hdl; exact hdl hm
   have hne : ∀ k,k=d∨k∈o.looksAt A→∀ o2∈rest,o2.dst≠some k:=fun k hk o2 h2 e=>by
    have:=hr' o2 h2
    rw [e] at this
    simp only [Bool.and_eq_true,Bool.not_eq_true',List.contains_eq_mem,decide_eq_false_iff_not] at this
    rcases hk with rfl|hk
    ·have:=this.1; simp at this
    ·exact this.2 hk
   rcases List.mem_cons.1 ho' with rfl|hm
   ·have hag : ∀ k∈o'.looksAt A,F[k]?=fr[k]?:=fun k hk2=>by
     rw [hk k (hne k (.inr hk2)),hd]
     have : d≠k:=fun e=>hdl' (e ▸ hk2)
     simp only [aput,List.getElem?_set_ne this]
    have hop : ∀ x∈o'.op.operands,aval G F x=aval G fr x:=fun x hx=>by
     cases x with
     | tmp t=>simp only [aval,List.getD_eq_getElem?_getD,hag t (looks_tmp hx)]
     | _=>rfl
    refine ⟨v,?_,?_⟩
    ·rw [hd,Option.bind_some,hk d (hne d (.inl rfl)),hd]
     simp only [aput]
     rw [List.getElem?_set_self (by omega)]
    ·rw [Array.toArray_toList,wanted_congr hag]
     cases hw : Region.wanted o' (ayielded A fr) with
     | true=>exact .inl ⟨rfl,fun k hk3=>evOp_congr hop (hw1 hw k hk3)⟩
     | false=>exact .inr ⟨rfl,hw2 hw⟩
   ·refine hs ?_ o' hm
    rw [hd]
    simp only [aput,List.length_set]
    exact hs2
theorem evW_go : ∀ (l : List Oper) (fr : List AV) (K' : List AV→AH→Prop),evW T G C A true K l fr H→(∀ F,K F H→AtEnd T G C A H fr F l→K' F H)→evList T G C A K' l fr H
 | [],fr,_,h,hk=>hk fr h ⟨rfl,fun _ _=>rfl,fun _ o ho=>by simp at ho⟩
 | o::rest,fr,K',h,hk=>by
   unfold evW at h
   unfold evList
   split at h
   ·rename_i hw
    obtain ⟨v,H',h1,h2,h3⟩:=h
    rw [h2 rfl] at h1 h3
    rw [if_pos hw]
    exact h1 _ (evW_go rest _ _ h3 fun F hF ha=>hk F hF (atEnd_cons (fun _=>h1) (fun e=>by rw [hw] at e; cases e) ha))
   ·rename_i hw
    rw [if_neg hw]
    exact evW_go rest _ _ h fun F hF ha=>hk F hF (atEnd_cons (fun e=>absurd e hw) (fun _=>rfl) ha)
theorem pure_det {op : Op} {v : AV} {H' : AH} (hp : pureOp T op=true) (h : ∀ k : AV→AH→Prop,k v H'→evOp T G C fr H op k) : aop T G fr H op=some (v,H'):=by
 have h1:=h (fun v' H1=>v'=v∧H1=H') ⟨rfl,rfl⟩
 have res : evRes (aop T G fr H op) (fun v' H1=>v'=v∧H1=H')→aop T G fr H op=some (v,H'):=fun hr=>by
  unfold evRes at hr
  split at hr
  ·rename_i v1 H2 he
   rw [he,hr.1,hr.2]
  ·exact hr.elim
 unfold evOp at h1
 split at h1
 ·simp [pureOp] at hp
 ·simp [pureOp] at hp
 ·simp [pureOp] at hp
 ·rcases h1 with h1|⟨j,h1⟩
  ·exact res h1
  ·exfalso
   rename_i s d x
   simp only [pureOp] at hp
   simp only [aalt] at h1
   cases hx : aval G fr x with
   | none=>rw [hx] at h1; exact h1
   | some y =>
     rw [hx] at h1
     simp only [Option.bind_some] at h1
     unfold aconvertF at h1
     split at h1
     ·split at h1
      ·rename_i e _ hd
       rw [hd] at hp
       cases hp
      ·exact h1
     ·exact h1
 ·simp [pureOp] at hp
 ·simp [pureOp] at hp
 ·simp [pureOp] at hp
 ·exact res h1
theorem chk_of_chkC {ops : List Oper} {F : List AV} {o : Oper} (hp : pureOp T o.op=true) (h : chkC1 T G C ops F H o) : chk1 T G ops F H o:=by
 obtain ⟨v,hv,⟨hw,ho⟩|⟨hw,rfl⟩⟩:=h
 ·have ho:=pure_det hp ho
  unfold chk1
  unfold Region.wanted at hw
  cases hg : o.guard with
  | none=>exact ⟨by rw [hv]; rfl,by rw [hv]; exact ho⟩
  | some jw =>
    obtain ⟨j,w⟩:=jw
    rw [hg] at hw
    simp only [beq_iff_eq] at hw
    exact .inl ⟨hw,by rw [hv]; rfl,by rw [hv]; exact ho⟩
 ·unfold chk1
  unfold Region.wanted at hw
  cases hg : o.guard with
  | none=>rw [hg] at hw; simp at hw
  | some jw =>
    obtain ⟨j,w⟩:=jw
    rw [hg] at hw
    simp only at hw
    cases hy : ayielded ops.toArray F j with
    | none=>exact .inr (.inr ⟨hy,hv⟩)
    | some b=>exact .inr (.inl ⟨by rw [hy] at hw ⊢; cases b<;>cases w<;>simp_all,hv⟩)
theorem chks_all {ops : List Oper} {F : List AV} {H : AH} : ∀ {l : List Oper},(∀ o∈l,chk1 T G ops F H o)→chks T G ops F H l
 | [],_=>trivial
 | o::l,h=>⟨h o (by simp),chks_all fun o' h'=>h o' (by simp [h'])⟩
theorem chkCs_all {ops : List Oper} {F : List AV} {H : AH} : ∀ {l : List Oper},(∀ o∈l,chkC1 T G C ops F H o)→chkCs T G C ops F H l
 | [],_=>trivial
 | o::l,h=>⟨h o (by simp),chkCs_all fun o' h'=>h o' (by simp [h'])⟩
def allBits (n : Nat) : Nat:=2 ^ n - 1
def p0Of (T : TT) (ops : List Oper) : List Nat:=idxs (fun i o=>free T (allBits ops.length) i o&&enabled (masksGo ops []) (linksOf (free T (allBits ops.length)) ops) i) ops
def f1Of (T : TT) (ops : List Oper) : List Nat:=idxs (fun i o=>(allBits ops.length).testBit i&&pureOp T o.op&&enabled (masksGo ops []) (linksOf (free T (allBits ops.length)) ops) i) ops
def f2Of (T : TT) (ops : List Oper) : List Nat:=idxs (fun i o=>(allBits ops.length).testBit i&&isCallOp o.op&&enabled (masksGo ops []) (linksOf (free T (allBits ops.length)) ops) i) ops
def drawnOk (T : TT) (gr len : Nat) (ops : List Oper) : Bool:=treeOk T (allBits ops.length) gr ops (p0Of T ops) (f1Of T ops) (f2Of T ops) .done&&steady ops.toArray len (pickOps ops (p0Of T ops))&&(f1Of T ops++f2Of T ops).all fun i=>(p0Of T ops).contains i
theorem go_drawn {id : Nat} {ops : List Oper} (gr : Nat) (hC : Ends C) (hCm : Mono C) (hok : drawnOk T gr fr.length ops=true) (h : evW T G C ops.toArray true (fun F H=>∃ fr' H',VS n F H fr' H'∧Q .normal fr' H') (pickOps ops (p0Of T ops)) fr H) : ev T G mx C n (.region id ops.toArray true) fr H Q:=by
 unfold drawnOk at hok
 rw [Bool.and_eq_true,Bool.and_eq_true,List.all_eq_true] at hok
 obtain ⟨⟨h1,h2⟩,h3⟩:=hok
 have key : ∀ F H',H'=H→(∀ o∈pickOps ops (p0Of T ops),chkC1 T G C ops F H o)→chks T G ops F H' (pickOps ops (f1Of T ops))∧chkCs T G C ops F H' (pickOps ops (f2Of T ops)):=fun F H' e hst=>by
  subst e
  have sub : ∀ o i,i∈f1Of T ops++f2Of T ops→ops[i]?=some o→chkC1 T G C ops F H' o:=fun o i hi ho=>hst o (mem_pick.2 ⟨i,by simpa using h3 i hi,ho⟩)
  refine ⟨chks_all fun o ho=>?_,chkCs_all fun o ho=>?_⟩
  ·obtain ⟨i,hi,h'⟩:=mem_pick.1 ho
   refine chk_of_chkC ?_ (sub o i (List.mem_append_left _ hi) h')
   unfold f1Of at ho
   exact pick_pure (fun i o hq=>by simp only [Bool.and_eq_true] at hq; exact hq.1.2) o ho
  ·obtain ⟨i,hi,h'⟩:=mem_pick.1 ho
   exact sub o i (List.mem_append_right _ hi) h'
 refine go_tree id (allBits ops.length) gr (p0Of T ops) (f1Of T ops) (f2Of T ops) .done hC hCm h1 ?_
 refine evW_go _ _ _ h fun F hK ha=>?_
 obtain ⟨c1,c2⟩:=key F H rfl (fun o ho=>by simpa using ha.2.2 h2 o ho)
 exact ⟨rfl,c1,c2,hK⟩
theorem x_seq {c : Code} (hc : c.kind=3) (h : ev T G mx C n c.l fr H (AX.then (fun fr H=>∃ fr2 H2,VS n fr H fr2 H2∧ev T G mx C n c.r fr2 H2 Q) Q)) : ev T G mx C n c fr H Q:=by
 cases c with
 | seq a b=>exact go_seq h
 | region id ops d=>cases d<;>simp [Code.kind] at hc
 | _=>simp [Code.kind] at hc
theorem x_region {c : Code} (hc : c.kind=1) (h : evAt T G C c.ops.toArray false (Q .normal) c.ops 0 fr H) : ev T G mx C n c fr H Q:=by
 cases c with
 | region id ops d =>
   cases d with
   | true=>simp [Code.kind] at hc
   | false =>
     refine go_region ?_
     have:=evW_list h
     simpa [Code.ops] using this
 | _=>simp [Code.kind] at hc
theorem x_drawn {c : Code} (gr : Nat) (hC : Ends C) (hCm : Mono C) (hc : c.kind=2) (hok : drawnOk T gr fr.length c.ops=true) (h : evAt T G C c.ops.toArray true (fun F H=>∃ fr' H',VS n F H fr' H'∧Q .normal fr' H') (pickOps c.ops (p0Of T c.ops)) 0 fr H) : ev T G mx C n c fr H Q:=by
 cases c with
 | region id ops d =>
   cases d with
   | false=>simp [Code.kind] at hc
   | true =>
     have:=go_drawn (mx:=mx) (id:=id) (Q:=Q) gr hC hCm hok h
     simpa [Code.ops] using this
 | _=>simp [Code.kind] at hc
theorem x_cond {c : Code} {b0 : Bool} (hc : c.kind=4) (hv : aval G fr c.opnd=some (.bool b0)) (h : ev T G mx C n (bif b0 then c.l else c.r) fr H Q) : ev T G mx C n c fr H Q:=by
 cases c with
 | cond o a b=>cases b0 with
   | false=>exact cond_f hv h
   | true=>exact cond_t hv h
 | region id ops d=>cases d<;>simp [Code.kind] at hc
 | _=>simp [Code.kind] at hc
theorem x_block {c : Code} (hc : c.kind=5) (h : ev T G mx C n c.l fr H (AX.inBlock c.num Q)) : ev T G mx C n c fr H Q:=by
 cases c with
 | block id a=>exact go_block h
 | region id ops d=>cases d<;>simp [Code.kind] at hc
 | _=>simp [Code.kind] at hc
theorem x_exit {c : Code} (hc : c.kind=7) (h : Q (.exit c.num) fr H) : ev T G mx C n c fr H Q:=by
 cases c with
 | exit id=>exact do_exit h
 | region id ops d=>cases d<;>simp [Code.kind] at hc
 | _=>simp [Code.kind] at hc
theorem x_skip {c : Code} (hc : c.kind=0∨c.kind=9) (h : Q .normal fr H) : ev T G mx C n c fr H Q:=by
 cases c with
 | skip=>exact do_skip h
 | label l=>exact do_label h
 | region id ops d=>cases d<;>simp [Code.kind] at hc
 | _=>simp [Code.kind] at hc
theorem x_ret {c : Code} (hc : c.kind=10) (h : Q .ret fr H) : ev T G mx C n c fr H Q:=by
 cases c with
 | ret=>exact do_ret h
 | region id ops d=>cases d<;>simp [Code.kind] at hc
 | _=>simp [Code.kind] at hc
theorem x_loop {P : Program} {c : Code} (I : Nat→List AV→AH→Prop) (hc : c.kind=6) (hz : ∀ fr H,¬ I 0 fr H) (hs : ∀ d fr H,I (d+1) fr H→ev T G mx (EvCall P T G) n c.l fr H (AX.then (fun fr H=>∃ fr2 H2,VS n fr H fr2 H2∧I d fr2 H2) Q)) {m : Nat} {fr2 : List AV} {H2 : AH} (hv : VS n fr H fr2 H2) (h : I m fr2 H2) : ev T G mx (EvCall P T G) n c fr H Q:=by
 cases c with
 | loop a=>exact loop_shift hv (go_loop I hz hs m fr2 H2 h)
 | region id ops d=>cases d<;>simp [Code.kind] at hc
 | _=>simp [Code.kind] at hc
theorem x_call {P : Program} {f : FuncId} {fn : Func} {args fr0 : List AV} {k : AV→AH→Prop} (h1 : P.funcs[f]?=some fn) (h2 : fn.body=some (bodyOf fn)) (h3 : (fn.name == "runtime.NumGoroutine")=false) (h0 : args++List.replicate (fn.ntmps - args.length) (.tup [])=fr0)
  (h4 : ev T G (P.follows .mixedOrders) (EvCall P T G) H.length (bodyOf fn) fr0 H (fun e fr H'=>(match e with|.exit _=>False|_=>True)∧∃ r,aresults T fn fr H'=some r∧∃ r' H'',VS H.length [r] H' [r'] H''∧k r' H'')) : EvCall P T G f args H k:=go_call h1 h2 h3 h0 h4
theorem w_end {i : Nat} (hl : Nat.ble L.length i=true) (h : K fr H) : evAt T G C A q K L i fr H:=by
 unfold evAt
 rw [List.drop_of_length_le (Nat.le_of_ble_eq_true hl)]
 exact h
def opAt (A : Array Oper) (L : List Oper) (i : Nat) (fr : List AV) : Option Op:=match L[i]? with
 | some o=>if Region.wanted o (ayielded A fr)=true then some o.op else none
 | none=>none
def dstAt (L : List Oper) (i : Nat) : Option Tmp:=(L[i]?).bind (·.dst)
theorem w_step {i : Nat} {op : Op} {v : AV} {H' : AH} (h0 : opAt A L i fr=some op) (hs : ∀ k : AV→AH→Prop,k v H'→evOp T G C fr H op k) (hq : q=true→H'=H) (h : evAt T G C A q K L (i+1) (aput fr (dstAt L i) v) H') : evAt T G C A q K L i fr H:=by
 unfold opAt at h0
 cases hL : L[i]? with
 | none=>rw [hL] at h0; cases h0
 | some o =>
   rw [hL] at h0
   simp only at h0
   split at h0
   ·rename_i hw
    cases h0
    unfold evAt dstAt at *
    rw [hL] at h
    rw [from_cons hL]
    unfold evW
    rw [if_pos hw]
    exact ⟨v,H',hs,hq,h⟩
   ·cases h0
theorem w_op {i : Nat} {op : Op} {v : AV} {H' : AH} (h0 : opAt A L i fr=some op) (ho : aop T G fr H op=some (v,H')) (hq : q=true→H'=H) (h : evAt T G C A q K L (i+1) (aput fr (dstAt L i) v) H') : evAt T G C A q K L i fr H :=
 w_step h0 (fun _ hk=>evOp_of ho hk) hq h
theorem w_alt {i : Nat} (j : Nat) {op : Op} {v : AV} {H' : AH} (h0 : opAt A L i fr=some op) (ho : aalt T G fr H j op=some (v,H')) (hq : q=true→H'=H) (h : evAt T G C A q K L (i+1) (aput fr (dstAt L i) v) H') : evAt T G C A q K L i fr H :=
 w_step h0 (fun _ hk=>evOp_alt ho hk) hq h
def kRunQ (T : TT) (G : Nat→Option (List AV)) (A : Array Oper) : List Oper→List AV→AH→Option (List AV)
 | [],fr,_=>some fr
 | o::rest,fr,H=>match Region.wanted o (ayielded A fr) with
   | true=>match pureOp T o.op with
     | true=>match aop T G fr H o.op with
       | some (v,_)=>kRunQ T G A rest (aput fr o.dst v) H
       | none=>none
     | false=>none
   | false=>kRunQ T G A rest (aput fr o.dst (.tup [])) H
theorem kRunQ_go : ∀ {l rest : List Oper} {fr fr' : List AV},kRunQ T G A l fr H=some fr'→evW T G C A q K rest fr' H→evW T G C A q K (l++rest) fr H
 | [],rest,fr,fr',hr,h=>by
   simp only [kRunQ,Option.some.injEq] at hr
   subst hr
   exact h
 | o::l,rest,fr,fr',hr,h=>by
   unfold kRunQ at hr
   rw [List.cons_append]
   unfold evW
   cases hw : Region.wanted o (ayielded A fr) with
   | true =>
     rw [hw] at hr
     simp only at hr
     split at hr
     ·rename_i hp
      split at hr
      ·rename_i v H1 ho
       rw [pure_heap hp ho] at ho
       exact ⟨v,_,fun k hk=>evOp_of ho hk,fun _=>rfl,kRunQ_go hr h⟩
      ·cases hr
     ·cases hr
   | false =>
     rw [hw] at hr
     simp only at hr
     simp only [Bool.false_eq_true,if_false]
     exact kRunQ_go hr h
theorem kRun_goW : ∀ {l rest : List Oper} {fr fr' : List AV} {H H' : AH},kRun T G A l fr H=some (fr',H')→evW T G C A false K rest fr' H'→evW T G C A false K (l++rest) fr H
 | [],rest,fr,fr',H,H',hr,h=>by
   simp only [kRun,Option.some.injEq,Prod.mk.injEq] at hr
   obtain ⟨rfl,rfl⟩:=hr
   exact h
 | o::l,rest,fr,fr',H,H',hr,h=>by
   unfold kRun at hr
   rw [List.cons_append]
   unfold evW
   cases hw : Region.wanted o (ayielded A fr) with
   | true =>
     rw [hw] at hr
     simp only at hr
     split at hr
     ·rename_i v H1 ho
      exact ⟨v,H1,fun k hk=>evOp_of ho hk,fun e=>(by cases e),kRun_goW hr h⟩
     ·cases hr
   | false =>
     rw [hw] at hr
     simp only at hr
     simp only [Bool.false_eq_true,if_false]
     exact kRun_goW hr h
theorem drop_more {i j : Nat} (hij : i≤j) : L.drop i=(L.drop i).take (j - i)++L.drop j:=by
 have : (L.drop i).drop (j - i)=L.drop j:=by rw [List.drop_drop]; congr 1; omega
 rw [← this,List.take_append_drop]
theorem w_pure {i : Nat} (j : Nat) (hij : Nat.ble i j=true) (hs : (kRunQ T G A ((L.drop i).take (j - i)) fr H).isSome=true) (h : evAt T G C A q K L j ((kRunQ T G A ((L.drop i).take (j - i)) fr H).getD []) H) : evAt T G C A q K L i fr H:=by
 obtain ⟨fr',hr⟩:=Option.isSome_iff_exists.1 hs
 rw [hr] at h
 unfold evAt at *
 rw [drop_more (Nat.le_of_ble_eq_true hij)]
 exact kRunQ_go hr h
theorem w_run {i : Nat} (j : Nat) (H' : AH) (hij : Nat.ble i j=true) (hs : (kRun T G A ((L.drop i).take (j - i)) fr H).map (·.2)=some H')
  (h : evAt T G C A false K L j (((kRun T G A ((L.drop i).take (j - i)) fr H).map (·.1)).getD []) H') : evAt T G C A false K L i fr H:=by
 cases hr : kRun T G A ((L.drop i).take (j - i)) fr H with
 | none=>rw [hr] at hs; cases hs
 | some p =>
   obtain ⟨fr',H1⟩:=p
   rw [hr] at h hs
   cases hs
   unfold evAt at *
   rw [drop_more (Nat.le_of_ble_eq_true hij)]
   exact kRun_goW hr h
theorem x_join {c : Code} (J : List AV→AH→Prop) (hc : c.kind=3) (hb : ∀ fr H,J fr H→ev T G mx C n c.r fr H Q) (ha : (∀ fr H,J fr H→ev T G mx C n c.r fr H Q)→ev T G mx C n c.l fr H (AX.then (fun fr H=>∃ fr2 H2,VS n fr H fr2 H2∧ev T G mx C n c.r fr2 H2 Q) Q)) : ev T G mx C n c fr H Q:=x_seq hc (ha hb)
theorem x_to {c : Code} {J : List AV→AH→Prop} {fr2 : List AV} {H2 : AH} (hJ : ∀ fr H,J fr H→ev T G mx C n c fr H Q) (hv : VS n fr H fr2 H2) (h : J fr2 H2) : ∃ fr2 H2,VS n fr H fr2 H2∧ev T G mx C n c fr2 H2 Q:=⟨fr2,H2,hv,hJ _ _ h⟩
theorem x_back {J : List AV→AH→Prop} {fr2 : List AV} {H2 : AH} (hv : VS n fr H fr2 H2) (h : J fr2 H2) : ∃ fr2 H2,VS n fr H fr2 H2∧J fr2 H2:=⟨fr2,H2,hv,h⟩
def junkB : Option Bool→AV
 | none=>.any
 | some b=>.bool b
theorem low_junk {m : Nat} (g : Option Bool) : (junkB g).low m=true:=by cases g<;>rfl
theorem fin_end {e : AX} {fn : Func} {k : AV→AH→Prop} {v : AV} {H2 : AH} (he : e=.ret∨e=.normal) (hr : (aresults T fn fr H).map AV.plain=some v) (h2 : H.take H2.length=H2) (hn : n≤H2.length) (hl : v.low H2.length=true) (hw : wf H2=true) (hk : k v H2) :
  (match e with|.exit _=>False|_=>True)∧∃ r,aresults T fn fr H=some r∧∃ r' H'',VS n [r] H [r'] H''∧k r' H'':=by
 simp only [Option.map_eq_some_iff] at hr
 obtain ⟨r,hr,hv⟩:=hr
 refine ⟨by rcases he with rfl|rfl<;>trivial,r,hr,v,H2,VS.fin hv h2 hn hl hw,hk⟩
end
end Go.Abs
namespace Go.Abs
section
variable {T : TT} {G : Nat→Option (List AV)} {C : ACall} {A : Array Oper} {q : Bool} {K : List AV→AH→Prop} {mx : Bool} {n : Nat} {fr : List AV} {H : AH} {Q : APost} {L : List Oper} {i : Nat}
def boolAt (fr : List AV) (k : Nat) : Option Bool:=match fr[k]? with
 | some (.bool b)=>some b
 | _=>none
theorem set_known {k : Nat} {c b : Bool} (h : boolAt fr k=some c) (hc : c=b) : fr.set k (.bool b)=fr:=by
 subst hc
 unfold boolAt at h
 split at h
 ·rename_i b' hb
  cases h
  refine List.ext_getElem? fun j=>?_
  by_cases hj : k=j
  ·subst hj
   rw [List.getElem?_set_self (List.getElem?_eq_some_iff.1 hb).1,hb]
  ·rw [List.getElem?_set_ne hj]
 ·cases h
theorem x_set (k : Nat) {c : Code} {b0 b : Bool} (h : boolAt fr k=some b0) (hc : b0=b) (hk : ev T G mx C n c (fr.set k (.bool b)) H Q) : ev T G mx C n c fr H Q:=by rwa [set_known h hc] at hk
def seeIdx (T : TT) (G : Nat→Option (List AV)) (fr : List AV) : Option Op→Option (List UInt8×Int)
 | some (.index t x y)=>match (T t).d,aval G fr x,aval G fr y with
   | .str,some (.str s),some (.int _ n)=>some (s,n)
   | _,_,_=>none
 | _=>none
theorem w_idx {s : List UInt8} {m y : Int} (h : seeIdx T G fr (opAt A L i fr)=some (s,m)) (hy : idxB s m=some y) (hk : evAt T G C A q K L (i+1) (aput fr (dstAt L i) (.int .u8 y)) H) : evAt T G C A q K L i fr H:=by
 unfold seeIdx at h
 split at h
 ·rename_i t x y' ho
  split at h
  ·rename_i h1 h2 h3
   cases h
   exact w_op ho (op_index_str h2 h3 h1 hy) (fun _=>rfl) hk
  ·cases h
 ·cases h
def seeCat (G : Nat→Option (List AV)) (fr : List AV) : Option Op→Option (List UInt8×List UInt8)
 | some (.binOp .add _ x y _)=>match aval G fr x,aval G fr y with
   | some (.str s),some (.str t)=>some (s,t)
   | _,_=>none
 | _=>none
theorem w_cat {a b s : List UInt8} (h : seeCat G fr (opAt A L i fr)=some (a,b)) (hs : catS a b=some s) (hk : evAt T G C A q K L (i+1) (aput fr (dstAt L i) (.str s)) H) : evAt T G C A q K L i fr H:=by
 unfold seeCat at h
 split at h
 ·rename_i t x y u ho
  split at h
  ·rename_i h1 h2
   cases h
   exact w_op ho (op_cat h1 h2 hs) (fun _=>rfl) hk
  ·cases h
 ·cases h
def seeBd (G : Nat→Option (List AV)) (fr : List AV) : Option Operand→Option (Option Int)
 | none=>some none
 | some x=>match aval G fr x with
   | some (.int _ n)=>some (some n)
   | _=>none
theorem seeBd_spec {o : Option Operand} {r : Option Int} (h : seeBd G fr o=some r) : ∃ k,o.mapM (aval G fr)=some (r.map (.int k ·)):=by
 unfold seeBd at h
 split at h
 ·cases h
  exact ⟨.i64,rfl⟩
 ·rename_i x
  split at h
  ·rename_i k n hx
   cases h
   refine ⟨k,?_⟩
   show Option.map some (aval G fr x)=_
   rw [hx]
   rfl
  ·cases h
def seeCut (T : TT) (G : Nat→Option (List AV)) (fr : List AV) : Option Op→Option (List UInt8×Option Int×Option Int)
 | some (.slice t x lo hi none)=>match (T t).d,aval G fr x,seeBd G fr lo,seeBd G fr hi with
   | .str,some (.str s),some l,some h=>some (s,l,h)
   | _,_,_,_=>none
 | _=>none
theorem w_cut {s r : List UInt8} {lo hi : Option Int} (h : seeCut T G fr (opAt A L i fr)=some (s,lo,hi)) (hr : cutS s lo hi=some r) (hk : evAt T G C A q K L (i+1) (aput fr (dstAt L i) (.str r)) H) : evAt T G C A q K L i fr H:=by
 unfold seeCut at h
 split at h
 ·rename_i t x l0 h0 ho
  split at h
  ·rename_i h1 h2 h3 h4
   cases h
   obtain ⟨k3,h3⟩:=seeBd_spec h3
   obtain ⟨k4,h4⟩:=seeBd_spec h4
   exact w_op ho (op_cut h2 h3 h4 h1 hr) (fun _=>rfl) hk
  ·cases h
 ·cases h
def seeQuo (G : Nat→Option (List AV)) (fr : List AV) : Option Op→Option (IntKind×Int×Int)
 | some (.binOp .quo _ x y _)=>match aval G fr x,aval G fr y with
   | some (.int k a),some (.int k' b)=>if k=k' then some (k,a,b) else none
   | _,_=>none
 | _=>none
def seeShift (G : Nat→Option (List AV)) (fr : List AV) : Option Op→Option (Bool×IntKind×Int×Int)
 | some (.binOp .shl _ x y _)=>match aval G fr x,aval G fr y with
   | some (.int k a),some (.int _ b)=>some (true,k,a,b)
   | _,_=>none
 | some (.binOp .shr _ x y _)=>match aval G fr x,aval G fr y with
   | some (.int k a),some (.int _ b)=>some (false,k,a,b)
   | _,_=>none
 | _=>none
theorem w_shl {k : IntKind} {a b r : Int} (h : seeShift G fr (opAt A L i fr)=some (true,k,a,b)) (hr : shlI k a b=some r) (hk : evAt T G C A q K L (i+1) (aput fr (dstAt L i) (.int k r)) H) : evAt T G C A q K L i fr H:=by
 unfold shlI at hr
 split at hr
 ·cases hr
 ·rename_i hb
  cases hr
  unfold seeShift at h
  split at h
  ·rename_i t x y u ho
   split at h
   ·rename_i h1 h2
    cases h
    exact w_op ho (v:=.int k (iShl k a b)) (H':=H) (by simp [aop,h1,h2,abin,ashift,hb,iShl]) (fun _=>rfl) hk
   ·cases h
  ·split at h<;>cases h
  ·cases h
theorem w_shr {k : IntKind} {a b r : Int} (h : seeShift G fr (opAt A L i fr)=some (false,k,a,b)) (hr : shrI k a b=some r) (hk : evAt T G C A q K L (i+1) (aput fr (dstAt L i) (.int k r)) H) : evAt T G C A q K L i fr H:=by
 unfold shrI at hr
 split at hr
 ·cases hr
 ·rename_i hb
  cases hr
  unfold seeShift at h
  split at h
  ·split at h<;>cases h
  ·rename_i t x y u ho
   split at h
   ·rename_i h1 h2
    cases h
    exact w_op ho (v:=.int k (iShr k a b)) (H':=H) (by simp [aop,h1,h2,abin,ashift,hb,iShr]) (fun _=>rfl) hk
   ·cases h
  ·cases h
def seeIaddr (T : TT) (G : Nat→Option (List AV)) (fr : List AV) : Option Op→Option (List AV×Nat×Int×Nat)
 | some (.indexAddr t x y)=>match (T t).d,aval G fr x,aval G fr y with
   | .slice e,some (.lit _ _ cs l),some (.int _ n)=>some (cs,l,n,(T e).size)
   | .slice e,some (.own _ _ _ cs l _),some (.int _ n)=>some (cs,l,n,(T e).size)
   | _,_,_=>none
 | _=>none
theorem w_iaddr {α : Type} (c : α→List AV) {sz : Nat} {l : List α} {m : Int} {y : α} (hy : idxL l m=some y) (h : seeIaddr T G fr (opAt A L i fr)=some (l.flatMap c,l.length,m,sz)) (h0 : 0 < sz) (hc : ∀ y,(c y).length=sz) (hk : evAt T G C A q K L (i+1) (aput fr (dstAt L i) (.lptr (l.flatMap c) (m.toNat * sz))) H) : evAt T G C A q K L i fr H:=by
 unfold seeIaddr at h
 split at h
 ·rename_i t x y' ho
  split at h
  ·rename_i e nl ex cs l' k n h1 h2 h3
   simp only [Option.some.injEq,Prod.mk.injEq] at h
   obtain ⟨rfl,rfl,rfl,hs⟩:=h
   exact w_op ho (op_iaddr h2 h3 h1 hs h0 hc hy) (fun _=>rfl) hk
  ·rename_i e l0 ver nl cs l' sz0 k n h1 h2 h3
   simp only [Option.some.injEq,Prod.mk.injEq] at h
   obtain ⟨rfl,rfl,rfl,hs⟩:=h
   exact w_op ho (op_iaddr_own h2 h3 h1 hs h0 hc hy) (fun _=>rfl) hk
  ·cases h
 ·cases h
def seeLoad (T : TT) (G : Nat→Option (List AV)) (fr : List AV) : Option Op→Option (TypeId×List AV×Nat×Nat)
 | some (.load t a)=>match aval G fr a with
   | some (.lptr cs o)=>some (t,cs,o,(T t).size)
   | _=>none
 | _=>none
theorem w_elem {α : Type} (c : α→List AV) (fo : Nat) {t : TypeId} {sz z : Nat} {l : List α} {m : Int} {y : α} {v : AV} (hy : idxL l m=some y) (h : seeLoad T G fr (opAt A L i fr)=some (t,l.flatMap c,m.toNat * sz+fo,z)) (hv : apart T t (c y) fo=some v) (hc : ∀ y,(c y).length=sz) (hz : fo+z≤sz) (hf : fo < sz) (hk : evAt T G C A q K L (i+1) (aput fr (dstAt L i) v) H) : evAt T G C A q K L i fr H:=by
 unfold seeLoad at h
 split at h
 ·rename_i t' a ho
  split at h
  ·rename_i cs o h1
   simp only [Option.some.injEq,Prod.mk.injEq] at h
   obtain ⟨rfl,rfl,rfl,rfl⟩:=h
   exact w_op ho (op_load_el h1 hc hy hv hz hf) (fun _=>rfl) hk
  ·cases h
 ·cases h
def seeSlice (T : TT) (G : Nat→Option (List AV)) (fr : List AV) : Option Op→Option (AV×Option Int×Option Int×Option Int×Nat)
 | some (.slice t x lo hi mx)=>match (T t).d,aval G fr x,seeBd G fr lo,seeBd G fr hi,seeBd G fr mx with
   | .slice e,some v,some l,some h,some m=>some (v,l,h,m,(T e).size)
   | _,_,_,_,_=>none
 | _=>none
def seeStr (T : TT) (G : Nat→Option (List AV)) (fr : List AV) : Option Op→Option (List AV×Nat)
 | some (.convert t u x)=>match (T t).d,(T u).d,aval G fr x with
   | .slice e,.str,some (.lit _ _ cs l)=>match (T e).d with
     | .int .u8=>some (cs,l)
     | _=>none
   | .slice e,.str,some (.own _ _ _ cs l _)=>match (T e).d with
     | .int .u8=>some (cs,l)
     | _=>none
   | _,_,_=>none
 | _=>none
theorem w_str {l : List Int} (h : seeStr T G fr (opAt A L i fr)=some (l.flatMap (cI .u8),l.length)) (hk : evAt T G C A q K L (i+1) (aput fr (dstAt L i) (.str (bytesS l))) H) : evAt T G C A q K L i fr H:=by
 unfold seeStr at h
 split at h
 ·rename_i t u x ho
  split at h
  ·rename_i e nl ex cs l' h1 h2 h3
   split at h
   ·rename_i h4
    simp only [Option.some.injEq,Prod.mk.injEq] at h
    obtain ⟨rfl,rfl⟩:=h
    exact w_op ho (op_string h3 (by rw [h1]; rfl) h1 h4 h2) (fun _=>rfl) hk
   ·cases h
  ·rename_i e l0 ver nl cs l' sz0 h1 h2 h3
   split at h
   ·rename_i h4
    simp only [Option.some.injEq,Prod.mk.injEq] at h
    obtain ⟨rfl,rfl⟩:=h
    exact w_op ho (op_string_own h3 (by rw [h1]; rfl) h1 h4 h2) (fun _=>rfl) hk
   ·cases h
  ·cases h
 ·cases h
def seeCall (G : Nat→Option (List AV)) (fr : List AV) : Option Op→Option (FuncId×List AV)
 | some (.call { callee:=.value f,args:=args,.. })=>match aval G fr f,args.toList.mapM (aval G fr) with
   | some (.fn g first caps),some as=>some (g,first++as++caps)
   | _,_=>none
 | _=>none
theorem w_call {g : FuncId} {as : List AV} {v : AV} {H' : AH} (h : seeCall G fr (opAt A L i fr)=some (g,as)) (hc : ∀ k : AV→AH→Prop,k v H'→C g as H k) (hq : q=true→H'=H) (hk : evAt T G C A q K L (i+1) (aput fr (dstAt L i) v) H') : evAt T G C A q K L i fr H:=by
 unfold seeCall at h
 split at h
 ·rename_i f args ts ho
  split at h
  ·rename_i g' first caps as' h1 h2
   cases h
   refine w_step ho (fun k hk'=>?_) hq hk
   rw [evOp_call,h1,h2]
   exact hc k hk'
  ·cases h
 ·cases h
def seeApp (T : TT) (G : Nat→Option (List AV)) (fr : List AV) : Option Op→Option (AV×AV×TypeId×Nat×Nat)
 | some (.call { callee:=.builtin .append,args,argTypes })=>match args.toList,argTypes.toList with
   | [a,b],[t,u]=>match (T t).d,(T u).d.row,aval G fr a,aval G fr b with
     | .slice e,true,some x,some y=>some (x,y,e,(T e).size,(T e).bytes)
     | _,_,_,_=>none
   | _,_=>none
 | _=>none
theorem seeApp_spec {op : Option Op} {x y : AV} {e : TypeId} {sz bytes : Nat} (h : seeApp T G fr op=some (x,y,e,sz,bytes)) : ∃ a b t u,op=some (.call { callee:=.builtin .append,args:=#[a,b],argTypes:=#[t,u] })∧(T t).d=.slice e∧(T u).d.row=true∧aval G fr a=some x∧aval G fr b=some y∧(T e).size=sz∧(T e).bytes=bytes:=by
 unfold seeApp at h
 split at h
 ·rename_i args ts
  split at h
  ·rename_i a b t u ha ht
   obtain rfl : args=#[a,b]:=by cases args; simp at ha; simp [ha]
   obtain rfl : ts=#[t,u]:=by cases ts; simp at ht; simp [ht]
   split at h
   ·rename_i h1 h2 h3 h4
    simp only [Option.some.injEq,Prod.mk.injEq] at h
    obtain ⟨rfl,rfl,rfl,rfl,rfl⟩:=h
    exact ⟨_,_,_,_,rfl,h1,h2,h3,h4,rfl,rfl⟩
   ·cases h
  ·cases h
 ·cases h
theorem w_app {α : Type} (c : α→List AV) {e : TypeId} {l0 ver sz bytes : Nat} {real : Bool} {x r : Sl α} {ys : List α} {y : AV} (hr : appL bytes x ys=some r) (h : seeApp T G fr (opAt A L i fr)=some (ownv c l0 ver sz x,y,e,sz,bytes)) (h0 : 0 < sz) (hy : Gives T H e (ys.flatMap c) ys.length y) (hl : roomAt H l0 ver=some real)
  (hk : evAt T G C A false K L (i+1) (aput fr (dstAt L i) (ownv c l0 (ver+1) sz r)) (H.set l0 (.room (ver+1) (real || !(ys.length==0))))) : evAt T G C A false K L i fr H:=by
 obtain ⟨a,b,t,u,ho,h1,h2,h3,h4,h5,h6⟩:=seeApp_spec h
 exact w_op ho (op_app h3 h4 h1 h2 h5 h0 h6 hy hl hr) (fun e=>by cases e) hk
theorem w_app0 {α : Type} (c : α→List AV) {e : TypeId} {sz bytes : Nat} {x r : Sl α} {ys : List α} {y : AV} (hr : appL bytes x ys=some r) (hex : x.ex=true) (h : seeApp T G fr (opAt A L i fr)=some (sl c x,y,e,sz,bytes)) (h0 : 0 < sz) (hc : ∀ y,(c y).length=sz) (hy : Gives T H e (ys.flatMap c) ys.length y)
  (hk : evAt T G C A false K L (i+1) (aput fr (dstAt L i) (ownv c H.length 1 sz r)) (H++[.room 1 (!(ys.length==0))])) : evAt T G C A false K L i fr H:=by
 obtain ⟨a,b,t,u,ho,h1,h2,h3,h4,h5,h6⟩:=seeApp_spec h
 exact w_alt 0 ho (alt_app h3 hex h4 h1 h2 h5 h0 hc h6 hy hr) (fun e=>by cases e) hk
def seeBytes (T : TT) (G : Nat→Option (List AV)) (fr : List AV) : Option Op→Option (List UInt8)
 | some (.convert t u x)=>match (T t).d.known,(T u).d,aval G fr x with
   | true,.slice e,some (.str s)=>match (T e).d,(T e).size with
     | .int .u8,1=>some s
     | _,_=>none
   | _,_,_=>none
 | _=>none
theorem w_bytes {s : List UInt8} {r : Sl Int} (hr : toBytes s=some r) (h : seeBytes T G fr (opAt A L i fr)=some s) (hk : evAt T G C A false K L (i+1) (aput fr (dstAt L i) (ownv (cI .u8) H.length 1 1 r)) (H++[.room 1 true])) : evAt T G C A false K L i fr H:=by
 unfold seeBytes at h
 split at h
 ·rename_i t u x ho
  split at h
  ·rename_i e s' h1 h2 h3
   split at h
   ·rename_i h4 h5
    cases h
    exact w_alt 0 ho (alt_bytes h3 h1 h2 h4 h5 hr) (fun e=>by cases e) hk
   ·cases h
  ·cases h
 ·cases h
def seeFrz (T : TT) (G : Nat→Option (List AV)) (fr : List AV) : Option Op→Option AV
 | some (.buildSlice t len parts)=>afrozen T G fr t len parts
 | _=>none
theorem w_frz {v : AV} (h : seeFrz T G fr (opAt A L i fr)=some v) (hk : evAt T G C A q K L (i+1) (aput fr (dstAt L i) v) H) : evAt T G C A q K L i fr H:=by
 unfold seeFrz at h
 split at h
 ·rename_i t len parts ho
  exact w_step ho (fun k hk'=>evOp_frozen h hk') (fun _=>rfl) hk
 ·cases h
def idxN (n : Nat) (i : Int) : Option Nat:=if 0≤i∧i < n then some i.toNat else none
theorem idxN_spec {n k : Nat} {i : Int} (h : idxN n i=some k) : 0≤i∧i < n∧i.toNat=k∧k < n:=by
 unfold idxN at h
 split at h
 ·rename_i hi
  cases h
  exact ⟨hi.1,hi.2,rfl,by omega⟩
 ·cases h
def seeAaddr (T : TT) (G : Nat→Option (List AV)) (fr : List AV) : Option Op→Option (Nat×Int×AV×Nat)
 | some (.indexAddr t x y)=>match (T t).d,aval G fr x,aval G fr y with
   | .arr n e,some (.ptr l o),some (.int _ m)=>some (n,m,.ptr l o,(T e).size)
   | .arr n e,some (.lptr cs o),some (.int _ m)=>some (n,m,.lptr cs o,(T e).size)
   | _,_,_=>none
 | _=>none
theorem w_aaddr {n0 k l o : Nat} {m : Int} (hm : idxN n0 m=some k) (h : seeAaddr T G fr (opAt A L i fr)=some (n0,m,.ptr l o,1)) (hk : evAt T G C A q K L (i+1) (aput fr (dstAt L i) (.ptr l (o+k))) H) : evAt T G C A q K L i fr H:=by
 obtain ⟨m1,m2,rfl,m3⟩:=idxN_spec hm
 unfold seeAaddr at h
 split at h
 ·rename_i t x y ho
  split at h
  ·rename_i n1 e l1 o1 k1 m1' h1 h2 h3
   simp only [Option.some.injEq,Prod.mk.injEq,AV.ptr.injEq] at h
   obtain ⟨rfl,rfl,⟨rfl,rfl⟩,hs⟩:=h
   refine w_op ho (v:=.ptr l1 (o1+m1'.toNat)) (H':=H) ?_ (fun _=>rfl) hk
   simp only [aop,h2,h3,aindexAddr,h1]
   rw [if_pos ⟨m1,m2⟩,hs,Nat.mul_one]
   rfl
  ·simp at h
  ·cases h
 ·cases h
theorem w_gaddr {n0 k o : Nat} {m : Int} {cs : List AV} (hm : idxN n0 m=some k) (h : seeAaddr T G fr (opAt A L i fr)=some (n0,m,.lptr cs o,1)) (hk : evAt T G C A q K L (i+1) (aput fr (dstAt L i) (.lptr cs (o+k))) H) : evAt T G C A q K L i fr H:=by
 obtain ⟨m1,m2,rfl,m3⟩:=idxN_spec hm
 unfold seeAaddr at h
 split at h
 ·rename_i t x y ho
  split at h
  ·simp at h
  ·rename_i n1 e cs1 o1 k1 m1' h1 h2 h3
   simp only [Option.some.injEq,Prod.mk.injEq,AV.lptr.injEq] at h
   obtain ⟨rfl,rfl,⟨rfl,rfl⟩,hs⟩:=h
   refine w_op ho (v:=.lptr cs1 (o1+m1'.toNat)) (H':=H) ?_ (fun _=>rfl) hk
   simp only [aop,h2,h3,aindexAddr,h1]
   rw [if_pos ⟨m1,m2⟩,hs,Nat.mul_one]
   rfl
  ·cases h
 ·cases h
def Arr.at {n : Nat} (a : Arr n) (k : Nat) : Int:=a.l.getD k 0
def cellsOf (H : AH) (l : Nat) : List AV:=match H[l]? with
 | some (.cells cs)=>cs
 | _=>[]
def isCells (H : AH) (l : Nat) : Bool:=match H[l]? with
 | some (.cells _)=>true
 | _=>false
theorem cells_of {l : Nat} (h : isCells H l=true) : H[l]?=some (.cells (cellsOf H l)):=by
 unfold isCells at h
 unfold cellsOf
 split at h
 ·rename_i cs hc; rw [hc]
 ·cases h
theorem cA_len {kd : IntKind} {m : Nat} (a : Arr m) : (cA kd a).length=m:=by simp [cA]
theorem cA_get {kd : IntKind} {m k : Nat} (a : Arr m) (h : k < m) : (cA kd a)[k]?=some (.int kd (a.at k)):=by
 unfold cA Arr.at
 rw [List.getElem?_map,List.getElem?_range h]
 rfl
theorem part_get {cs xs : List AV} {o m k : Nat} {v : AV} (h : (cs.drop o).take m=xs) (hk : k < m) (hx : xs[k]?=some v) : cs[o+k]?=some v:=by
 rw [← List.getElem?_drop]
 subst h
 rw [List.getElem?_take_of_lt hk] at hx
 exact hx
def seeLoadP (T : TT) (G : Nat→Option (List AV)) (fr : List AV) : Option Op→Option (AV×Bool)
 | some (.load t a)=>match aval G fr a with
   | some p=>some (p,(T t).d.known&&!(T t).d.isAgg)
   | _=>none
 | _=>none
theorem w_aload {kd : IntKind} {m k l o : Nat} {j : Int} (a : Arr m) (hm : idxN m j=some k) (h : seeLoadP T G fr (opAt A L i fr)=some (.ptr l (o+k),true)) (hb : isCells H l=true) (hc : ((cellsOf H l).drop o).take m=cA kd a)
  (hk : evAt T G C A q K L (i+1) (aput fr (dstAt L i) (.int kd (a.at k))) H) : evAt T G C A q K L i fr H:=by
 have hkm:=(idxN_spec hm).2.2.2
 unfold seeLoadP at h
 split at h
 ·rename_i t x ho
  split at h
  ·rename_i p hp
   simp only [Option.some.injEq,Prod.mk.injEq,Bool.and_eq_true,Bool.not_eq_true'] at h
   obtain ⟨rfl,h1,h2⟩:=h
   refine w_op ho (v:=.int kd (a.at k)) (H':=H) ?_ (fun _=>rfl) hk
   simp only [aop,hp,Option.bind_some,aload,cells_of hb,apart,h1,h2,if_true,Bool.false_eq_true,if_false]
   rw [part_get hc hkm (cA_get a hkm)]
   rfl
  ·cases h
 ·cases h
theorem w_gload {kd : IntKind} {m k : Nat} {j : Int} {cs : List AV} {o : Nat} (a : Arr m) (hm : idxN m j=some k) (h : seeLoadP T G fr (opAt A L i fr)=some (.lptr cs (o+k),true)) (hc : (cs.drop o).take m=cA kd a)
  (hk : evAt T G C A q K L (i+1) (aput fr (dstAt L i) (.int kd (a.at k))) H) : evAt T G C A q K L i fr H:=by
 have hkm:=(idxN_spec hm).2.2.2
 unfold seeLoadP at h
 split at h
 ·rename_i t x ho
  split at h
  ·rename_i p hp
   simp only [Option.some.injEq,Prod.mk.injEq,Bool.and_eq_true,Bool.not_eq_true'] at h
   obtain ⟨rfl,h1,h2⟩:=h
   refine w_op ho (v:=.int kd (a.at k)) (H':=H) ?_ (fun _=>rfl) hk
   simp only [aop,hp,Option.bind_some,aload,apart,h1,h2,if_true,Bool.false_eq_true,if_false]
   rw [part_get hc hkm (cA_get a hkm)]
   rfl
  ·cases h
 ·cases h
def seeAidx (T : TT) (G : Nat→Option (List AV)) (fr : List AV) : Option Op→Option (Nat×List AV×Int×Nat×Bool)
 | some (.index t x y)=>match (T t).d,aval G fr x,aval G fr y with
   | .arr n e,some (.agg cs),some (.int _ m)=>some (n,cs,m,(T e).size,(T e).d.known&&!(T e).d.isAgg)
   | _,_,_=>none
 | _=>none
theorem w_aidx {kd : IntKind} {m k : Nat} {j : Int} (a : Arr m) (hm : idxN m j=some k) (h : seeAidx T G fr (opAt A L i fr)=some (m,cA kd a,j,1,true)) (hk : evAt T G C A q K L (i+1) (aput fr (dstAt L i) (.int kd (a.at k))) H) : evAt T G C A q K L i fr H:=by
 obtain ⟨m1,m2,rfl,m3⟩:=idxN_spec hm
 unfold seeAidx at h
 split at h
 ·rename_i t x y ho
  split at h
  ·rename_i n1 e cs k1 m1' h1 h2 h3
   simp only [Option.some.injEq,Prod.mk.injEq,Bool.and_eq_true,Bool.not_eq_true'] at h
   obtain ⟨rfl,rfl,rfl,hs,h4,h5⟩:=h
   refine w_op ho (v:=.int kd (a.at m1'.toNat)) (H':=H) ?_ (fun _=>rfl) hk
   simp only [aop,h2,h3,aindex,h1]
   rw [if_pos ⟨m1,m2⟩,hs,Nat.mul_one]
   simp only [apart,h4,h5,if_true,Bool.false_eq_true,if_false]
   rw [cA_get a m3]
   rfl
  ·cases h
 ·cases h
theorem splice_one {cs : List AV} {o : Nat} {v : AV} (h : o < cs.length) : splice cs o [v]=cs.set o v:=by
 unfold splice
 rw [List.set_eq_take_append_cons_drop,if_pos h]
 simp
theorem cA_set {kd : IntKind} {m k : Nat} (a : Arr m) (v : Int) (h : k < m) : (cA kd a).set k (.int kd v)=cA kd (a.set k v):=by
 refine List.ext_getElem? fun j=>?_
 by_cases hj : k=j
 ·subst hj
  rw [List.getElem?_set_self (by rw [cA_len]; exact h),cA_get _ h]
  simp only [Arr.at,Arr.set]
  rw [List.getD_eq_getElem?_getD,List.getElem?_set_self (by rw [a.h]; exact h)]
  rfl
 ·rw [List.getElem?_set_ne hj]
  by_cases hm : j < m
  ·rw [cA_get _ hm,cA_get _ hm]
   simp only [Arr.at,Arr.set,List.getD_eq_getElem?_getD]
   rw [List.getElem?_set_ne hj]
  ·rw [List.getElem?_eq_none (by rw [cA_len]; omega),List.getElem?_eq_none (by rw [cA_len]; omega)]
theorem splice_arr {kd : IntKind} {cs : List AV} {m k o : Nat} (a : Arr m) (v : Int) (h : (cs.drop o).take m=cA kd a) (hk : k < m) : o+k < cs.length∧splice cs (o+k) [.int kd v]=cs.take o++(cA kd (a.set k v)++cs.drop (o+m)):=by
 have hl : m≤cs.length - o:=by
  have:=congrArg List.length h
  rw [List.length_take,List.length_drop,cA_len] at this
  omega
 have hlt : o+k < cs.length:=by omega
 refine ⟨hlt,?_⟩
 rw [splice_one hlt,← cA_set a v hk]
 have e : cs=cs.take o++(cA kd a++cs.drop (o+m)):=by
  rw [← h]
  conv=>lhs; rw [← List.take_append_drop o cs]
  congr 1
  conv=>lhs; rw [← List.take_append_drop m (cs.drop o)]
  rw [List.drop_drop]
 conv=>lhs; rw [e]
 have ho : (cs.take o).length=o:=by rw [List.length_take]; omega
 rw [List.set_append_right _ _ (by omega),ho,List.set_append_left _ _ (by rw [cA_len]; omega)]
 congr 3
 omega
def seeStoreP (T : TT) (G : Nat→Option (List AV)) (fr : List AV) : Option Op→Option (AV×AV×Bool×Nat)
 | some (.store t a x)=>match aval G fr a,aval G fr x with
   | some p,some v=>some (p,v,(T t).d.known,(T t).size)
   | _,_=>none
 | _=>none
theorem w_astore {kd : IntKind} {m k l o : Nat} {j v : Int} (a : Arr m) (hm : idxN m j=some k) (h : seeStoreP T G fr (opAt A L i fr)=some (.ptr l (o+k),.int kd v,true,1)) (hb : isCells H l=true) (hc : ((cellsOf H l).drop o).take m=cA kd a)
  (hk : evAt T G C A false K L (i+1) (aput fr (dstAt L i) (.tup [])) (H.set l (.cells ((cellsOf H l).take o++(cA kd (a.set k v)++(cellsOf H l).drop (o+m)))))) : evAt T G C A false K L i fr H:=by
 have hkm:=(idxN_spec hm).2.2.2
 obtain ⟨hlt,hsp⟩:=splice_arr a v hc hkm
 unfold seeStoreP at h
 split at h
 ·rename_i t x y ho
  split at h
  ·rename_i p u hp hu
   simp only [Option.some.injEq,Prod.mk.injEq] at h
   obtain ⟨rfl,rfl,h1,h2⟩:=h
   refine w_op ho ?_ (fun e=>by cases e) hk
   simp only [aop,hp,hu,astore,acell,h1,h2,awrite,cells_of hb,List.length_cons,List.length_nil]
   rw [if_pos ⟨trivial,trivial⟩,if_pos (by omega),hsp]
   rfl
  ·cases h
 ·cases h
def iRem (a b : Int) : Int:=a.tmod b
def Sl.weak {α : Type} (x : Sl α) : Sl α:=⟨x.nl,false,x.l⟩
def seeCallW (G : Nat→Option (List AV)) (fr : List AV) (op : Option Op) : Option (FuncId×List AV):=(seeCall G fr op).map fun p=>(p.1,p.2.map AV.weak)
theorem w_pcallW {P : Program} {g : FuncId} {as : List AV} {v : AV} (hc : EvCall P T G g as [] (fun r H'=>r=v∧H'=[])) (h : seeCallW G fr (opAt A L i fr)=some (g,as)) (ha : lows 0 as=true) (hv : v.low 0=true) (hk : evAt T G (EvCall P T G) A q K L (i+1) (aput fr (dstAt L i) v) H) : evAt T G (EvCall P T G) A q K L i fr H:=by
 unfold seeCallW at h
 simp only [Option.map_eq_some_iff,Prod.mk.injEq] at h
 obtain ⟨⟨g',as'⟩,hs,rfl,rfl⟩:=h
 exact w_call hs (fun _ hk'=>EvCall.weaken (imp_weaks as') (call_pure ha hv hc hk')) (fun _=>rfl) hk
theorem lows_cons {m : Nat} {a : AV} {l : List AV} (h1 : a.low m=true) (h2 : lows m l=true) : lows m (a::l)=true:=by simp [lows,h1,h2]
theorem low_agg {m : Nat} {cs : List AV} (h : lows m cs=true) : (AV.agg cs).low m=true:=h
end
end Go.Abs
namespace Go.Abs
section
variable {T : TT} {G : Nat→Option (List AV)} {C : ACall} {A : Array Oper} {q : Bool} {K : List AV→AH→Prop} {fr : List AV} {H : AH} {L : List Oper} {i : Nat}
end
end Go.Abs
namespace Go.Abs
def forget2 : Nat→List AV→List AV
 | m,a::as=>(bif Nat.beq (m % 2) 1 then a.forget else a)::forget2 (m / 2) as
 | _,[]=>[]
theorem imp_forget2 : ∀ (as : List AV) (m : Nat),ImpL as (forget2 m as)
 | [],_=>trivial
 | a::as,m=>by
   refine ⟨?_,imp_forget2 as _⟩
   cases Nat.beq (m % 2) 1
   ·exact Imp.rfl
   ·exact imp_forget
theorem VS.same2 {n : Nat} {fr fr2 : List AV} {H H2 : AH} (m : Nat) (h1 : forget2 m fr=fr2) (h2 : H=H2) : VS n fr H fr2 H2:=by
 subst h1 h2
 exact VS.imp (imp_forget2 fr m) (ImpH.refl H)
mutual
def AV.sren (s : List Nat) : AV→AV
 | .ptr l o=>.ptr (s.idxOf l) o
 | .ref e z l o n k=>.ref e z (s.idxOf l) o n k
 | .map l=>.map (s.idxOf l)
 | .agg cs=>.agg (srens s cs)
 | .tup cs=>.tup (srens s cs)
 | .fn f a b=>.fn f (srens s a) (srens s b)
 | .iface t v=>.iface t (v.sren s)
 | .own l v n cs len sz=>.own (s.idxOf l) v n cs len sz
 | v=>v
def srens (s : List Nat) : List AV→List AV
 | []=>[]
 | a::l=>a.sren s::srens s l
end
mutual
def AV.sref (n : Nat) : AV→Bool
 | .ptr l _|.ref _ _ l _ _ _|.map l|.own l _ _ _ _ _=>Nat.blt l n
 | .agg cs|.tup cs=>srefs n cs
 | .fn _ a b=>srefs n a&&srefs n b
 | .iface _ v=>v.sref n
 | _=>true
def srefs (n : Nat) : List AV→Bool
 | []=>true
 | a::l=>a.sref n&&srefs n l
end
mutual
def AV.tight : AV→Bool
 | .lptr cs _|.lit _ _ cs _|.own _ _ _ cs _ _=>lows 0 cs
 | .agg cs|.tup cs=>tights cs
 | .fn _ a b=>tights a&&tights b
 | .iface _ v=>v.tight
 | _=>true
def tights : List AV→Bool
 | []=>true
 | a::l=>a.tight&&tights l
end
mutual
theorem sren_spec {s : List Nat} : ∀ (a : AV),(a.sren s).sref s.length=true→(a.sren s).tight=true→a.ren s.idxOf=a.sren s∧∀ l∈a.refs,l∈s
 | .bool _,_,_|.int _ _,_,_|.str _,_,_|.nilptr,_,_|.nilfn,_,_|.nilmap,_,_|.nilif,_,_|.any,_,_=>⟨rfl,fun l h=>by simp [AV.refs] at h⟩
 | .ptr l o,h,_=>⟨rfl,fun l' h'=>by
   simp only [AV.sren,AV.sref,Nat.blt_eq] at h
   simp only [AV.refs,List.mem_singleton] at h'
   subst h'
   exact List.idxOf_lt_length_iff.1 h⟩
 | .ref e z l o n k,h,_=>⟨rfl,fun l' h'=>by
   simp only [AV.sren,AV.sref,Nat.blt_eq] at h
   simp only [AV.refs,List.mem_singleton] at h'
   subst h'
   exact List.idxOf_lt_length_iff.1 h⟩
 | .map l,h,_=>⟨rfl,fun l' h'=>by
   simp only [AV.sren,AV.sref,Nat.blt_eq] at h
   simp only [AV.refs,List.mem_singleton] at h'
   subst h'
   exact List.idxOf_lt_length_iff.1 h⟩
 | .lptr cs o,_,ht=>by
   simp only [AV.sren,AV.tight] at ht
   exact ⟨by simp only [AV.ren,AV.sren,rens_low ht],fun l h=>by simp only [AV.refs,lows_refs cs ht] at h; simp at h⟩
 | .lit _ _ cs _,_,ht=>by
   simp only [AV.sren,AV.tight] at ht
   exact ⟨by simp only [AV.ren,AV.sren,rens_low ht],fun l h=>by simp only [AV.refs,lows_refs cs ht] at h; simp at h⟩
 | .own l _ _ cs _ _,h,ht=>by
   simp only [AV.sren,AV.tight] at ht
   simp only [AV.sren,AV.sref,Nat.blt_eq] at h
   refine ⟨by simp only [AV.ren,AV.sren,rens_low ht],fun l' h'=>?_⟩
   simp only [AV.refs,lows_refs cs ht,List.mem_singleton] at h'
   subst h'
   exact List.idxOf_lt_length_iff.1 h
 | .agg cs,h,ht=>by
   simp only [AV.sren,AV.tight,AV.sref] at h ht
   have:=srens_spec cs h ht
   exact ⟨by simp only [AV.ren,AV.sren,this.1],this.2⟩
 | .tup cs,h,ht=>by
   simp only [AV.sren,AV.tight,AV.sref] at h ht
   have:=srens_spec cs h ht
   exact ⟨by simp only [AV.ren,AV.sren,this.1],this.2⟩
 | .fn f a b,h,ht=>by
   simp only [AV.sren,AV.tight,AV.sref,Bool.and_eq_true] at h ht
   have h1:=srens_spec a h.1 ht.1
   have h2:=srens_spec b h.2 ht.2
   exact ⟨by simp only [AV.ren,AV.sren,h1.1,h2.1],fun l hl=>by
    simp only [AV.refs,List.mem_append] at hl
    exact hl.elim (h1.2 l) (h2.2 l)⟩
 | .iface t v,h,ht=>by
   simp only [AV.sren,AV.tight,AV.sref] at h ht
   have:=sren_spec v h ht
   exact ⟨by simp only [AV.ren,AV.sren,this.1],this.2⟩
theorem srens_spec {s : List Nat} : ∀ (as : List AV),srefs s.length (srens s as)=true→tights (srens s as)=true→rens s.idxOf as=srens s as∧∀ l∈refss as,l∈s
 | [],_,_=>⟨rfl,fun l h=>by simp [refss] at h⟩
 | a::as,h,ht=>by
   simp only [srens,srefs,tights,Bool.and_eq_true] at h ht
   have h1:=sren_spec a h.1 ht.1
   have h2:=srens_spec as h.2 ht.2
   exact ⟨by simp only [rens,srens,h1.1,h2.1],fun l hl=>by
    simp only [refss,List.mem_append] at hl
    exact hl.elim (h1.2 l) (h2.2 l)⟩
end
def ShB (s : List Nat) (b0 b : AB) : Prop:=∃ c,(b0=c∨ImpB b0 c)∧c.ren s.idxOf=b∧∀ l∈c.refs,l∈s
theorem shb_cells {s : List Nat} {as bs : List AV} (h1 : srens s as=bs) (h2 : srefs s.length bs=true) (h3 : tights bs=true) : ShB s (.cells as) (.cells bs):=by
 subst h1
 have:=srens_spec as h2 h3
 exact ⟨_,.inl rfl,by simp only [AB.ren,this.1],this.2⟩
theorem shb_room {s : List Nat} {v : Nat} {r : Bool} : ShB s (.room v r) (.room v r):=⟨_,.inl rfl,rfl,fun l h=>by simp [AB.refs] at h⟩
theorem shb_low {s : List Nat} {b : AB} (h : b.refs=[]) (hr : b.ren s.idxOf=b) : ShB s b b:=⟨_,.inl rfl,hr,fun l hl=>by rw [h] at hl; simp at hl⟩
def ShH (s : List Nat) (H : AH) : List Nat→AH→Prop
 | [],[]=>True
 | o::os,b::bs=>(∃ b0,H[o]?=some b0∧ShB s b0 b)∧ShH s H os bs
 | _,_=>False
theorem shh_nil {s : List Nat} {H : AH} : ShH s H [] []:=trivial
theorem shh {s : List Nat} {H : AH} {o : Nat} {os : List Nat} {b0 b : AB} {bs : AH} (h : H[o]?=some b0) (hb : ShB s b0 b) (hr : ShH s H os bs) : ShH s H (o::os) (b::bs):=⟨⟨b0,h,hb⟩,hr⟩
theorem ImpH.set : ∀ {H G : AH} {o : Nat} {a c : AB},ImpH H G→H[o]?=some a→(a=c∨ImpB a c)→ImpH H (G.set o c)
 | [],_,_,_,_,_,h,_=>by simp at h
 | _::_,[],_,_,_,h,_,_=>h.elim
 | b::H,d::G,0,a,c,h,h1,h2=>by
   simp at h1
   subst h1
   exact ⟨h2,h.2⟩
 | b::H,d::G,o+1,a,c,h,h1,h2=>⟨h.1,ImpH.set h.2 (by simpa using h1) h2⟩
theorem ShH.mid {s : List Nat} {H : AH} : ∀ {os : List Nat} {bs : AH},os.Nodup→ShH s H os bs→os.length=bs.length∧∃ G,ImpH H G∧∀ (i o : Nat) (b : AB),os[i]?=some o→bs[i]?=some b→∃ c,G[o]?=some c∧c.ren s.idxOf=b∧∀ l∈c.refs,l∈s
 | [],[],_,_=>⟨rfl,H,ImpH.refl H,fun i o b h=>by simp at h⟩
 | [],_::_,_,h=>h.elim
 | _::_,[],_,h=>h.elim
 | o::os,b::bs,hn,h=>by
   simp only [List.nodup_cons] at hn
   obtain ⟨⟨b0,h1,c,h2,h3,h4⟩,hr⟩:=h
   obtain ⟨hl,G,g1,g2⟩:=ShH.mid hn.2 hr
   have hlen:=g1.get.1
   refine ⟨by simp [hl],G.set o c,g1.set h1 h2,fun i o' b' ho hb=>?_⟩
   cases i with
   | zero =>
     simp at ho hb
     subst ho hb
     refine ⟨c,?_,h3,h4⟩
     rw [List.getElem?_set_self]
     have:=(List.getElem?_eq_some_iff.1 h1).1
     omega
   | succ i =>
     simp at ho hb
     obtain ⟨c',k1,k2⟩:=g2 i o' b' ho hb
     refine ⟨c',?_,k2⟩
     have hne : o≠o':=fun e=>hn.1 (by rw [e]; exact List.mem_of_getElem? ho)
     rw [List.getElem?_set_ne hne]
     exact k1
theorem VS.shR {n : Nat} {fr fr2 : List AV} {H H2 : AH} (s : List Nat) (m : Nat) (hs : (decide (s.take n=List.range n)&&decide (n≤s.length)&&decide s.Nodup)=true) (k1 : rens s.idxOf (forget2 m fr)=fr2) (k2 : ∀ l∈refss (forget2 m fr),l∈s) (hH : ShH s H s H2) : VS n fr H fr2 H2:=by
 simp only [Bool.and_eq_true,decide_eq_true_eq] at hs
 obtain ⟨⟨s1,s2⟩,s3⟩:=hs
 obtain ⟨hl,G,g1,g2⟩:=ShH.mid s3 hH
 have hp : packed s G=H2:=by
  refine List.ext_getElem? fun i=>?_
  unfold packed
  rw [List.getElem?_map]
  cases ho : s[i]? with
  | none =>
    have : s.length≤i:=List.getElem?_eq_none_iff.1 ho
    rw [List.getElem?_eq_none (by omega)]
    rfl
  | some o =>
    have hi:=(List.getElem?_eq_some_iff.1 ho).1
    obtain ⟨c,c1,c2,_⟩:=g2 i o H2[i] ho (List.getElem?_eq_getElem (by omega))
    rw [List.getElem?_eq_getElem (by omega : i < H2.length)]
    simp only [Option.map_some,List.getD_eq_getElem?_getD,c1,Option.getD_some,c2]
 have hok : packOk n s (forget2 m fr) G=true:=by
  unfold packOk
  simp only [Bool.and_eq_true,decide_eq_true_eq,List.all_eq_true,List.contains_eq_mem]
  have hg : ∀ o∈s,∃ c,G[o]?=some c∧∀ l∈c.refs,l∈s:=fun o ho=>by
   obtain ⟨i,hi⟩:=List.getElem?_of_mem ho
   have:=(List.getElem?_eq_some_iff.1 hi).1
   obtain ⟨c,c1,_,c3⟩:=g2 i o H2[i] hi (List.getElem?_eq_getElem (by omega))
   exact ⟨c,c1,c3⟩
  refine ⟨⟨⟨⟨⟨s1,s2⟩,s3⟩,fun o ho=>?_⟩,k2⟩,fun o ho=>?_⟩
  ·obtain ⟨c,c1,_⟩:=hg o ho
   exact (List.getElem?_eq_some_iff.1 c1).1
  ·obtain ⟨c,c1,c2⟩:=hg o ho
   rw [List.getD_eq_getElem?_getD,c1]
   exact c2
 have:=VS.pack hok
 rw [hp,k1] at this
 exact (VS.imp (imp_forget2 fr m) g1).trans this
theorem VS.sh {n : Nat} {fr fr2 : List AV} {H H2 : AH} (s : List Nat) (m : Nat) (hs : (decide (s.take n=List.range n)&&decide (n≤s.length)&&decide s.Nodup)=true) (h1 : srens s (forget2 m fr)=fr2) (h2 : srefs s.length fr2=true) (h3 : tights fr2=true) (hH : ShH s H s H2) : VS n fr H fr2 H2:=by
 subst h1
 obtain ⟨k1,k2⟩:=srens_spec (forget2 m fr) h2 h3
 exact VS.shR s m hs k1 k2 hH
theorem tight_low : ∀ (a : AV),a.low 0=true→a.tight=true
 | .bool _,_|.int _ _,_|.str _,_|.nilptr,_|.nilfn,_|.nilmap,_|.nilif,_|.any,_|.ptr _ _,_|.ref _ _ _ _ _ _,_|.map _,_=>rfl
 | .lptr _ _,h|.lit _ _ _ _,h=>h
 | .own _ _ _ _ _ _,h=>by simp [AV.low] at h
 | .agg cs,h|.tup cs,h=>tights_low cs h
 | .fn _ a b,h=>by
   simp only [AV.low,AV.tight,Bool.and_eq_true] at *
   exact ⟨tights_low a h.1,tights_low b h.2⟩
 | .iface _ v,h=>tight_low v h
where
 tights_low : ∀ (l : List AV),lows 0 l=true→tights l=true
 | [],_=>rfl
 | a::l,h=>by
   simp only [lows,tights,Bool.and_eq_true] at *
   exact ⟨tight_low a h.1,tights_low l h.2⟩
theorem tights_lows {l : List AV} (h : lows 0 l=true) : tights l=true:=tight_low.tights_low l h
theorem tight_agg {l : List AV} (h : tights l=true) : (AV.agg l).tight=true:=h
theorem tight_own {α : Type} {c : α→List AV} (hc : ∀ x,lows 0 (c x)=true) {l v sz : Nat} {x : Sl α} : (ownv c l v sz x).tight=true:=low_flat hc _
theorem tight_sl {α : Type} {c : α→List AV} (hc : ∀ x,lows 0 (c x)=true) {x : Sl α} : (sl c x).tight=true:=low_flat hc _
theorem tight_junk (g : Option Bool) : (junkB g).tight=true:=by cases g<;>rfl
theorem fin_sh {T : TT} {n : Nat} {fr : List AV} {H H2 : AH} {e : AX} {fn : Func} {k : AV→AH→Prop} {v : AV} (s : List Nat) (he : e=.ret∨e=.normal) (h0 : (aresults T fn fr H).isSome=true) (hs : (decide (s.take n=List.range n)&&decide (n≤s.length)&&decide s.Nodup)=true)
  (h1 : srens s [((aresults T fn fr H).getD (.tup [])).plain]=[v]) (h2 : srefs s.length [v]=true) (h3 : v.tight=true) (hH : ShH s H s H2) (hk : k v H2) :
  (match e with|.exit _=>False|_=>True)∧∃ r,aresults T fn fr H=some r∧∃ r' H'',VS n [r] H [r'] H''∧k r' H'':=by
 obtain ⟨r,hr⟩:=Option.isSome_iff_exists.1 h0
 rw [hr] at h1
 refine ⟨by rcases he with rfl|rfl<;>trivial,r,hr,v,H2,?_,hk⟩
 have h3' : ImpL [r] [r.plain]:=⟨imp_plain,trivial⟩
 refine (VS.imp h3' (ImpH.refl H)).trans (VS.sh s 0 hs ?_ h2 (by simp [tights,h3]) hH)
 exact h1
end Go.Abs
namespace Go.Abs
def tightsX (ps : List Nat) : Nat→List AV→Bool
 | _,[]=>true
 | i,a::l=>(bif ps.elem i then true else a.tight)&&tightsX ps (i+1) l
def TAt (fr : List AV) : List Nat→Prop
 | []=>True
 | p::ps=>(fr.getD p .any).tight=true∧TAt fr ps
theorem TAt.mem {fr : List AV} : ∀ {ps : List Nat},TAt fr ps→∀ p∈ps,(fr.getD p .any).tight=true
 | [],_,p,hp=>by simp at hp
 | q::ps,h,p,hp=>by
   rcases List.mem_cons.1 hp with rfl|hp
   ·exact h.1
   ·exact TAt.mem h.2 p hp
theorem tightsX_spec {ps : List Nat} : ∀ {i : Nat} {l : List AV},tightsX ps i l=true→(∀ p∈ps,i≤p→(l.getD (p - i) .any).tight=true)→tights l=true
 | _,[],_,_=>rfl
 | i,a::l,h,hp=>by
   simp only [tightsX,Bool.and_eq_true] at h
   simp only [tights,Bool.and_eq_true]
   refine ⟨?_,tightsX_spec h.2 fun p hm hi=>?_⟩
   ·cases he : ps.elem i with
    | true =>
      have:=hp i (by simpa using he) (Nat.le_refl _)
      simpa using this
    | false =>
      have h1:=h.1
      rw [he] at h1
      simpa using h1
   ·have:=hp p hm (by omega)
    have e : p - i=(p - (i+1))+1:=by omega
    rw [e,List.getD_cons_succ] at this
    exact this
theorem tights_at {fr : List AV} (ps : List Nat) (h : tightsX ps 0 fr=true) (hp : TAt fr ps) : tights fr=true:=tightsX_spec h fun p hm _=>by simpa using hp.mem p hm
def srensX (s ps : List Nat) : Nat→List AV→List AV
 | _,[]=>[]
 | i,a::l=>(bif ps.elem i then a else a.sren s)::srensX s ps (i+1) l
def srefsX (n : Nat) (ps : List Nat) : Nat→List AV→Bool
 | _,[]=>true
 | i,a::l=>(bif ps.elem i then true else a.sref n)&&srefsX n ps (i+1) l
def LAt (fr : List AV) : List Nat→Prop
 | []=>True
 | p::ps=>(fr.getD p .any).low 0=true∧LAt fr ps
theorem LAt.mem {fr : List AV} : ∀ {ps : List Nat},LAt fr ps→∀ p∈ps,(fr.getD p .any).low 0=true
 | [],_,p,hp=>by simp at hp
 | q::ps,h,p,hp=>by
   rcases List.mem_cons.1 hp with rfl|hp
   ·exact h.1
   ·exact LAt.mem h.2 p hp
theorem srensX_spec {s ps : List Nat} : ∀ (i : Nat) (as : List AV),srefsX s.length ps i (srensX s ps i as)=true→tights (srensX s ps i as)=true→(∀ p∈ps,i≤p→((srensX s ps i as).getD (p - i) .any).low 0=true)→rens s.idxOf as=srensX s ps i as∧∀ l∈refss as,l∈s
 | _,[],_,_,_=>⟨rfl,fun l h=>by simp [refss] at h⟩
 | i,a::as,h,ht,hp=>by
   simp only [srensX,srefsX,tights,Bool.and_eq_true] at h ht
   have h2:=srensX_spec (i+1) as h.2 ht.2 fun p hm hi=>by
    have:=hp p hm (by omega)
    have e : p - i=(p - (i+1))+1:=by omega
    rw [e] at this
    simpa only [srensX,List.getD_cons_succ] using this
   have h1 : a.ren s.idxOf=(bif ps.elem i then a else a.sren s)∧∀ l∈a.refs,l∈s:=by
    cases he : ps.elem i with
    | true =>
      have:=hp i (by simpa using he) (Nat.le_refl _)
      simp only [srensX,he,cond_true,Nat.sub_self,List.getD_cons_zero] at this
      exact ⟨ren_low this,fun l hl=>by rw [low_refs_aux a this] at hl; simp at hl⟩
    | false =>
      have g1:=h.1
      have g2:=ht.1
      simp only [he,cond_false] at g1 g2
      exact sren_spec a g1 g2
   exact ⟨by simp only [rens,srensX,h1.1,h2.1],fun l hl=>by
    simp only [refss,List.mem_append] at hl
    exact hl.elim (h1.2 l) (h2.2 l)⟩
theorem VS.shX {n : Nat} {fr fr2 : List AV} {H H2 : AH} (s : List Nat) (m : Nat) (ps : List Nat) (hs : (decide (s.take n=List.range n)&&decide (n≤s.length)&&decide s.Nodup)=true) (h1 : srensX s ps 0 (forget2 m fr)=fr2) (h2 : srefsX s.length ps 0 fr2=true) (hl : LAt fr2 ps) (h3 : tights fr2=true) (hH : ShH s H s H2) : VS n fr H fr2 H2:=by
 subst h1
 obtain ⟨k1,k2⟩:=srensX_spec 0 (forget2 m fr) h2 h3 fun p hp _=>by simpa using hl.mem p hp
 exact VS.shR s m hs k1 k2 hH
mutual
def AV.mren (s : List Nat) : AV→AV
 | .ptr l o=>.ptr (s.getD l 0) o
 | .ref e z l o n k=>.ref e z (s.getD l 0) o n k
 | .map l=>.map (s.getD l 0)
 | .agg cs=>.agg (mrens s cs)
 | .tup cs=>.tup (mrens s cs)
 | .fn f a b=>.fn f (mrens s a) (mrens s b)
 | .iface t v=>.iface t (v.mren s)
 | .own l v n cs len sz=>.own (s.getD l 0) v n cs len sz
 | v=>v
def mrens (s : List Nat) : List AV→List AV
 | []=>[]
 | a::l=>a.mren s::mrens s l
end
mutual
theorem mren_spec {s : List Nat} {m : Nat} : ∀ (a : AV),a.sref m=true→a.tight=true→a.ren (s.getD · 0)=a.mren s∧∀ l∈a.refs,l < m
 | .bool _,_,_|.int _ _,_,_|.str _,_,_|.nilptr,_,_|.nilfn,_,_|.nilmap,_,_|.nilif,_,_|.any,_,_=>⟨rfl,fun l h=>by simp [AV.refs] at h⟩
 | .ptr l o,h,_|.ref e z l o n k,h,_|.map l,h,_=>⟨rfl,fun l' h'=>by
   simp only [AV.sref,Nat.blt_eq] at h
   simp only [AV.refs,List.mem_singleton] at h'
   subst h'
   exact h⟩
 | .lptr cs o,_,ht=>by
   simp only [AV.tight] at ht
   exact ⟨by simp only [AV.ren,AV.mren,rens_low ht],fun l h=>by simp only [AV.refs,lows_refs cs ht] at h; simp at h⟩
 | .lit _ _ cs _,_,ht=>by
   simp only [AV.tight] at ht
   exact ⟨by simp only [AV.ren,AV.mren,rens_low ht],fun l h=>by simp only [AV.refs,lows_refs cs ht] at h; simp at h⟩
 | .own l _ _ cs _ _,h,ht=>by
   simp only [AV.tight] at ht
   simp only [AV.sref,Nat.blt_eq] at h
   refine ⟨by simp only [AV.ren,AV.mren,rens_low ht],fun l' h'=>?_⟩
   simp only [AV.refs,lows_refs cs ht,List.mem_singleton] at h'
   subst h'
   exact h
 | .agg cs,h,ht=>by
   simp only [AV.tight,AV.sref] at h ht
   have:=mrens_spec (s:=s) cs h ht
   exact ⟨by simp only [AV.ren,AV.mren,this.1],this.2⟩
 | .tup cs,h,ht=>by
   simp only [AV.tight,AV.sref] at h ht
   have:=mrens_spec (s:=s) cs h ht
   exact ⟨by simp only [AV.ren,AV.mren,this.1],this.2⟩
 | .fn f a b,h,ht=>by
   simp only [AV.tight,AV.sref,Bool.and_eq_true] at h ht
   have h1:=mrens_spec (s:=s) a h.1 ht.1
   have h2:=mrens_spec (s:=s) b h.2 ht.2
   exact ⟨by simp only [AV.ren,AV.mren,h1.1,h2.1],fun l hl=>by
    simp only [AV.refs,List.mem_append] at hl
    exact hl.elim (h1.2 l) (h2.2 l)⟩
 | .iface t v,h,ht=>by
   simp only [AV.tight,AV.sref] at h ht
   have:=mren_spec (s:=s) v h ht
   exact ⟨by simp only [AV.ren,AV.mren,this.1],this.2⟩
theorem mrens_spec {s : List Nat} {m : Nat} : ∀ (as : List AV),srefs m as=true→tights as=true→rens (s.getD · 0) as=mrens s as∧∀ l∈refss as,l < m
 | [],_,_=>⟨rfl,fun l h=>by simp [refss] at h⟩
 | a::as,h,ht=>by
   simp only [srefs,tights,Bool.and_eq_true] at h ht
   have h1:=mren_spec (s:=s) a h.1 ht.1
   have h2:=mrens_spec (s:=s) as h.2 ht.2
   exact ⟨by simp only [rens,mrens,h1.1,h2.1],fun l hl=>by
    simp only [refss,List.mem_append] at hl
    exact hl.elim (h1.2 l) (h2.2 l)⟩
end
def SB (s : List Nat) (m : Nat) (b b' : AB) : Prop:=b.ren (s.getD · 0)=b'∧∀ l∈b.refs,l < m
theorem sb_cells {s : List Nat} {m : Nat} {as bs : List AV} (h1 : mrens s as=bs) (h2 : srefs m as=true) (h3 : tights as=true) : SB s m (.cells as) (.cells bs):=by
 have:=mrens_spec (s:=s) as h2 h3
 subst h1
 exact ⟨by simp only [AB.ren,this.1],this.2⟩
def NoRef (b : AB) : Prop:=b.refs=[]∧∀ r,b.ren r=b
theorem NoRef.shb {s : List Nat} {b : AB} (h : NoRef b) : ShB s b b:=shb_low h.1 (h.2 _)
def PlH (s : List Nat) (m : Nat) (H : AH) : List Nat→AH→Prop
 | [],[]=>True
 | o::os,b::bs=>(∃ b',H[o]?=some b'∧SB s m b b')∧PlH s m H os bs
 | _,_=>False
theorem pl_nil {s : List Nat} {m : Nat} {H : AH} : PlH s m H [] []:=trivial
theorem pl {s : List Nat} {m : Nat} {H : AH} {o : Nat} {os : List Nat} {b b' : AB} {bs : AH} (h : H[o]?=some b') (hb : SB s m b b') (hr : PlH s m H os bs) : PlH s m H (o::os) (b::bs):=⟨⟨b',h,hb⟩,hr⟩
theorem PlH.placed {s : List Nat} {m : Nat} {H : AH} : ∀ {os : List Nat} {bs : AH},PlH s m H os bs→Placed (s.getD · 0) H os bs∧∀ b∈bs,∀ l∈b.refs,l < m
 | [],[],_=>⟨trivial,fun b h=>by simp at h⟩
 | [],_::_,h=>h.elim
 | _::_,[],h=>h.elim
 | o::os,b::bs,⟨⟨b',h1,h2,h3⟩,hr⟩=>by
   obtain ⟨g1,g2⟩:=PlH.placed hr
   refine ⟨⟨by rw [h2]; exact h1,g1⟩,fun c hc=>?_⟩
   rcases List.mem_cons.1 hc with rfl|hc
   ·exact h3
   ·exact g2 c hc
def SBs (s : List Nat) (m : Nat) : AH→AH→Prop
 | [],[]=>True
 | b::bs,b'::bs'=>SB s m b b'∧SBs s m bs bs'
 | _,_=>False
theorem sbs_nil {s : List Nat} {m : Nat} : SBs s m [] []:=trivial
theorem sbs {s : List Nat} {m : Nat} {b b' : AB} {bs bs' : AH} (h : SB s m b b') (hr : SBs s m bs bs') : SBs s m (b::bs) (b'::bs'):=⟨h,hr⟩
theorem SBs.spec {s : List Nat} {m : Nat} : ∀ {bs bs' : AH},SBs s m bs bs'→bs.map (·.ren (s.getD · 0))=bs'∧∀ b∈bs,∀ l∈b.refs,l < m
 | [],[],_=>⟨rfl,fun b h=>by simp at h⟩
 | [],_::_,h=>h.elim
 | _::_,[],h=>h.elim
 | b::bs,b'::bs',⟨⟨h1,h2⟩,hr⟩=>by
   obtain ⟨g1,g2⟩:=SBs.spec hr
   refine ⟨by rw [List.map_cons,h1,g1],fun c hc=>?_⟩
   rcases List.mem_cons.1 hc with rfl|hc
   ·exact h2
   ·exact g2 c hc
def putRaw (H : AH) : List Nat→AH→AH
 | i::s,b::h=>putRaw (H.set i b) s h
 | _,_=>H
theorem putBack_raw {r : Nat→Nat} : ∀ {s : List Nat} {h H : AH},putBack r H s h=putRaw H s (h.map (·.ren r))
 | [],h,_=>by cases h<;>rfl
 | _::_,[],_=>rfl
 | i::s,b::h,H=>putBack_raw (s:=s) (h:=h)
section
variable {T : TT} {G : Nat→Option (List AV)} {A : Array Oper} {q : Bool} {K : List AV→AH→Prop} {mx : Bool} {n : Nat} {fr : List AV} {H : AH} {Q : APost} {L : List Oper} {i : Nat}
theorem w_ocall {P : Program} {g : FuncId} {ga as0 : List AV} {h0 h1 h2 H2 : AH} {v0 v : AV} (s p : List Nat) (hc : EvCall P T G g as0 h0 (fun r H'=>r=v0∧H'=h1)) (h : seeCallW G fr (opAt A L i fr)=some (g,ga))
  (hs : (decide s.Nodup&&decide (s.length≤h1.length)&&decide (posOf H s h1=p)&&srefs s.length as0&&v0.sref h1.length)=true) (a1 : mrens s as0=ga) (a2 : tights as0=true) (a3 : PlH s s.length H s h0) (b1 : v0.mren p=v) (b2 : v0.tight=true) (b3 : SBs p h1.length h1 h2)
  (b4 : putRaw (H++List.replicate (h1.length - s.length) .dead) p h2=H2) (hq : q=true→H2=H) (hk : evAt T G (EvCall P T G) A q K L (i+1) (aput fr (dstAt L i) v) H2) : evAt T G (EvCall P T G) A q K L i fr H:=by
 simp only [Bool.and_eq_true,decide_eq_true_eq] at hs
 obtain ⟨⟨⟨⟨s1,s2⟩,s3⟩,s4⟩,s5⟩:=hs
 unfold seeCallW at h
 simp only [Option.map_eq_some_iff,Prod.mk.injEq] at h
 obtain ⟨⟨g',as'⟩,hs',rfl,rfl⟩:=h
 refine w_call hs' (fun k hk'=>EvCall.weaken (imp_weaks as') ?_) hq hk
 obtain ⟨m1,m2⟩:=mrens_spec (s:=s) as0 s4 a2
 obtain ⟨p1,p2⟩:=a3.placed
 obtain ⟨q1,q2⟩:=b3.spec
 obtain ⟨r1,r2⟩:=mren_spec (s:=p) v0 s5 b2
 refine EvCall.frame s s1 (m1.trans a1) p1 m2 p2 hc (fun r h1' ⟨e1,e2⟩=>?_) (fun r h1' ⟨e1,e2⟩=>?_)
 ·subst e1 e2
  exact ⟨s2,r2,q2⟩
 ·subst e1 e2
  have hb : back H s h1'=(p.getD · 0):=by funext j; unfold back; rw [s3]
  have hw : whole H s h1'=H2:=by
   unfold whole
   rw [hb,s3,putBack_raw,q1,b4]
  rw [hb,r1,b1,hw]
  exact hk'
end
end Go.Abs
namespace Go.Abs
def rfv {α : Type} (ex : Bool) (x : Sl α) (l sz : Nat) : AV:=.ref ex (x.nl&&x.l.isEmpty) l 0 x.l.length sz
def rfb {α : Type} (c : α→List AV) (x : Sl α) : AB:=if (x.nl&&x.l.isEmpty)=true then .dead else .cells (x.l.flatMap c)
theorem noref_rfb {α : Type} {c : α→List AV} (hc : ∀ x,lows 0 (c x)=true) (x : Sl α) : NoRef (rfb c x):=by
 unfold rfb
 split
 ·exact ⟨rfl,fun _=>rfl⟩
 ·exact ⟨lows_refs _ (low_flat hc _),fun r=>by simp only [AB.ren,rens_low (low_flat hc x.l)]⟩
section
variable {T : TT} {G : Nat→Option (List AV)} {C : ACall} {A : Array Oper} {q : Bool} {K : List AV→AH→Prop} {mx : Bool} {n : Nat} {fr : List AV} {H : AH} {Q : APost} {L : List Oper} {i : Nat}
def seeIA (G : Nat→Option (List AV)) (fr : List AV) : Option Op→Option (AV×AV×TypeId)
 | some (.indexAddr t x y)=>match aval G fr x,aval G fr y with
   | some v,some w=>some (v,w,t)
   | _,_=>none
 | _=>none
theorem rfb_some {α : Type} {c : α→List AV} {b : Sl α} {j : Nat} {y : α} (hy : b.l[j]?=some y) : rfb c b=.cells (b.l.flatMap c):=by
 unfold rfb
 cases hb : b.l with
 | nil=>rw [hb] at hy; simp at hy
 | cons a l=>simp
def seeLP (G : Nat→Option (List AV)) (fr : List AV) : Option Op→Option (AV×TypeId)
 | some (.load t a)=>match aval G fr a with
   | some p=>some (p,t)
   | _=>none
 | _=>none
theorem w_rload {α : Type} (c : α→List AV) {l sz fo j : Nat} (b : Sl α) {y : α} {t : TypeId} {v : AV} {z : Nat} (hy : b.l[j]?=some y) (h : seeLP G fr (opAt A L i fr)=some (.ptr l (j * sz+fo),t)) (hH : H[l]?=some (rfb c b)) (hc : ∀ y,(c y).length=sz) (hp : apart T t (c y) fo=some v) (hz : (T t).size=z) (hf : fo+z≤sz) (hf1 : fo < sz)
  (hk : evAt T G C A q K L (i+1) (aput fr (dstAt L i) v) H) : evAt T G C A q K L i fr H:=by
 unfold seeLP at h
 split at h
 ·rename_i t' a ho
  split at h
  ·rename_i p hp'
   cases h
   refine w_op ho (v:=v) (H':=H) ?_ (fun _=>rfl) hk
   have hi : idxL b.l (j : Int)=some y:=by simp [idxL,hy]
   have:=op_load_el (T:=T) (G:=fun _=>none) (fr:=[.lptr (b.l.flatMap c) ((j : Int).toNat * sz+fo)]) (H:=H) (t:=t) (a:=.tmp 0) (l:=b.l) (n:=(j : Int)) (fo:=fo) (v:=v) rfl hc hi hp (by rw [hz]; exact hf) hf1
   simp only [aop,aval,List.getD_cons_zero,Option.bind_some,aload,Int.toNat_natCast] at this
   simp only [aop,hp',Option.bind_some,aload,hH,rfb_some hy]
   exact this
  ·cases h
 ·cases h
theorem room_at {H : AH} {l ver : Nat} {real : Bool} (h : H[l]?=some (.room ver real)) : roomAt H l ver=some real:=by unfold roomAt; rw [h]; simp
end
end Go.Abs
namespace Go.Abs
section
variable {T : TT} {G : Nat→Option (List AV)} {C : ACall} {A : Array Oper} {q : Bool} {K : List AV→AH→Prop} {mx : Bool} {n : Nat} {fr : List AV} {H : AH} {Q : APost} {L : List Oper} {i : Nat}
def stableOp (T : TT) (G : Nat→Option (List AV)) (fr : List AV) : Op→Bool
 | .move _|.assign _|.pick _ _ _|.build _ _|.nilCheck _|.binOp _ _ _ _ _|.unOp _ _ _|.fieldAddr _ _ _|.field _ _ _|.indexAddr _ _ _|.index _ _ _|.extract _ _=>true
 | .slice t _ _ _ _=>match (T t).d with|.str|.slice _=>true|_=>false
 | .convert _ d _=>match (T d).d with|.int _=>true|_=>false
 | .call { callee:=.builtin .len,argTypes,.. }=>match argTypes.toList with|[t]=>(match (T t).d with|.map _ _=>false|_=>true)|_=>false
 | .call { callee:=.builtin .min,.. }|.call { callee:=.builtin .max,.. }=>true
 | .load _ a=>match aval G fr a with|some (.lptr _ _)=>true|_=>false
 | _=>false
theorem map_two {α : Type} {o : Option α} {H H1 : AH} : o.map (·,H1)=((o.map (·,H)).map (·.1)).map (·,H1):=by cases o<;>rfl
theorem aop_same {op : Op} (H H1 : AH) (hs : stableOp T G fr op=true) : aop T G fr H1 op=((aop T G fr H op).map (·.1)).map (·,H1):=by
 unfold stableOp at hs
 split at hs
 all_goals try (cases hs; done)
 all_goals simp only [aop]
 all_goals try exact map_two
 all_goals try ((repeat' split)<;>first|rfl|exact map_two; done)
 case h_4 t parts =>
  cases List.mapM (fun p=>Option.map (fun v=>(p.fst,v)) (aval G fr p.snd)) parts.toList with
  | none=>rfl
  | some ps=>cases (T t).d<;>first|rfl|(simp only [Option.map_map]; rfl)
 case h_13 t x lo hi mx =>
  cases aval G fr x with
  | none=>rfl
  | some a=>cases Option.mapM (aval G fr) lo with
    | none=>rfl
    | some lo=>cases Option.mapM (aval G fr) hi with
      | none=>rfl
      | some hi=>cases Option.mapM (aval G fr) mx with
        | none=>rfl
        | some mx =>
          have : aslice T H1 t a lo hi mx=aslice T H t a lo hi mx:=by
           unfold aslice
           cases hd : (T t).d<;>rw [hd] at hs<;>simp only at hs<;>first|(cases hs; done)|(cases a<;>rfl)
          simp only [this]
          exact map_two
 case h_14 src d x =>
  cases aval G fr x with
  | none=>rfl
  | some a =>
    simp only [Option.bind_some]
    unfold aconvert
    cases hd : (T d).d<;>rw [hd] at hs<;>simp only at hs<;>first|(cases hs; done)|skip
    cases (T src).d.known<;>cases a<;>rfl
 case h_15 args ts =>
  cases List.mapM (aval G fr) args.toList with
  | none=>rfl
  | some as =>
    simp only [Option.bind_some]
    unfold abuiltin
    split at hs
    ·rename_i t ht
     rw [ht]
     cases as with
     | nil=>rfl
     | cons a as=>cases as with
       | cons b as=>rfl
       | nil=>cases hd : (T t).d<;>rw [hd] at hs<;>simp only at hs<;>first|(cases hs; done)|(simp only [hd]; done)|(simp only [hd]; cases a<;>rfl)
    ·cases hs
 case h_16 args ts =>
  cases List.mapM (aval G fr) args.toList with
  | none=>rfl
  | some as =>
    simp only [Option.bind_some]
    unfold abuiltin
    (repeat' split)<;>first|rfl|simp_all
 case h_17 args ts =>
  cases List.mapM (aval G fr) args.toList with
  | none=>rfl
  | some as =>
    simp only [Option.bind_some]
    unfold abuiltin
    (repeat' split)<;>first|rfl|simp_all
 case h_18 t a =>
  split at hs
  ·rename_i cs o ha
   simp only [ha,Option.bind_some]
   exact map_two (o:=aload T H t (.lptr cs o))
  ·cases hs
theorem aop_stable {op : Op} {v : AV} {H' : AH} (H1 : AH) (hs : stableOp T G fr op=true) (h : aop T G fr H op=some (v,H')) : aop T G fr H1 op=some (v,H1):=by
 rw [aop_same H H1 hs,h]
 rfl
def stills (T : TT) (G : Nat→Option (List AV)) (F : List AV) (o : Oper) : Bool:=match o.op with
 | .buildSlice _ _ _=>true
 | op=>stableOp T G F op
theorem stable_pure {op : Op} {F : List AV} (h : stableOp T G F op=true) : pureOp T op=true:=by
 unfold stableOp at h
 split at h<;>first|(cases h; done)|rfl|skip
 rename_i s d x
 simp only [pureOp]
 cases hd : (T d).d<;>rw [hd] at h<;>first|rfl|(cases h; done)
theorem frozen_of {t : TypeId} {len : Nat} {parts : Array (Nat×Operand)} {v : AV} (h : ∀ k : AV→AH→Prop,k v H→evOp T G C fr H (.buildSlice t len parts) k) : afrozen T G fr t len parts=some v:=by
 have h1:=h (fun v' H1=>v'=v∧H1=H) ⟨rfl,rfl⟩
 simp only [evOp] at h1
 rcases h1 with h1|⟨j,h1⟩
 ·exfalso
  unfold evRes at h1
  split at h1
  ·rename_i v1 H1 he
   obtain ⟨_,rfl⟩:=h1
   simp only [aop] at he
   split at he
   ·split at he
    ·split at he
     ·simp only [Option.map_eq_some_iff,Prod.mk.injEq] at he
      obtain ⟨_,_,_,he⟩:=he
      have:=congrArg List.length he
      simp at this
     ·cases he
    ·cases he
   ·cases he
  ·exact h1
 ·unfold evRes at h1
  split at h1
  ·rename_i v1 H1 he
   simp only [aalt,Option.map_eq_some_iff,Prod.mk.injEq] at he
   obtain ⟨v2,he,rfl,rfl⟩:=he
   rw [he,h1.1]
  ·exact h1.elim
theorem chk_move {ops : List Oper} {F F2 : List AV} {H1 : AH} {o : Oper} (h : chkC1 T G C ops F H o) (hs : H1=H∨stills T G F2 o=true) (hd : ∀ k,o.dst=some k→F2[k]?=F[k]?) (hl : ∀ k∈o.looksAt ops.toArray,F2[k]?=F[k]?) : chkC1 T G C ops F2 H1 o:=by
 obtain ⟨v,hv,hc⟩:=h
 have hw : Region.wanted o (ayielded ops.toArray F2)=Region.wanted o (ayielded ops.toArray F):=wanted_congr hl
 have hop : ∀ x∈o.op.operands,aval G F2 x=aval G F x:=fun x hx=>by
  cases x with
  | tmp t=>simp only [aval,List.getD_eq_getElem?_getD,hl t (looks_tmp hx)]
  | _=>rfl
 refine ⟨v,?_,?_⟩
 ·cases ho : o.dst with
  | none=>rw [ho] at hv; cases hv
  | some k=>rw [ho] at hv; simp only [Option.bind_some] at hv ⊢; rw [hd k ho]; exact hv
 ·rw [hw]
  rcases hc with ⟨h1,h2⟩|h2
  ·have h2 : ∀ k : AV→AH→Prop,k v H→evOp T G C F2 H o.op k:=fun k hk=>evOp_congr hop (h2 k hk)
   refine .inl ⟨h1,fun k hk=>?_⟩
   rcases hs with rfl|hs
   ·exact h2 k hk
   ·unfold stills at hs
    split at hs
    ·rename_i t len parts e
     rw [e] at h2 ⊢
     exact evOp_frozen (frozen_of h2) hk
    ·exact evOp_of (aop_stable H1 hs (pure_det (stable_pure hs) h2)) hk
  ·exact .inr h2
structure Row where
 c : Nat
 p : List Nat
 f1 : List Nat
 f2 : List Nat
 hv : List Nat
def rowPT : List Row→PT
 | []=>.done
 | r::rs=>.alt r.c r.p r.f1 r.f2 (rowPT rs) .nil
def Row.keep (r : Row) : List Nat:=(r.f1++r.f2).filter fun i=>!r.p.elem i
def Row.quiet (r : Row) : List Nat:=r.keep.filter fun i=>!r.hv.elem i
def evRows (T : TT) (G : Nat→Option (List AV)) (C : ACall) (ops : List Oper) (K : List AV→AH→Prop) : List Row→List AV→AH→Prop
 | [],F,H=>K F H
 | r::rs,F,H=>evAt T G C ops.toArray false (fun F1 H1=>((pickOps ops r.quiet).all (stills T G F1)=true∧chkCs T G C ops F1 H1 (pickOps ops r.hv))∧evAt T G C ops.toArray true (fun F2 H2=>evRows T G C ops K rs F2 H2) (pickOps ops r.p) 0 F1 H1) (pickOps ops [r.c]) 0 F H
theorem rows_done {ops : List Oper} (h : K fr H) : evRows T G C ops K [] fr H:=h
theorem rows_next {ops : List Oper} {r : Row} {rs : List Row} (h : evAt T G C ops.toArray false (fun F1 H1=>((pickOps ops r.quiet).all (stills T G F1)=true∧chkCs T G C ops F1 H1 (pickOps ops r.hv))∧evAt T G C ops.toArray true (fun F2 H2=>evRows T G C ops K rs F2 H2) (pickOps ops r.p) 0 F1 H1) (pickOps ops [r.c]) 0 fr H) : evRows T G C ops K (r::rs) fr H:=h
def apartOf (ops : List Oper) (ws rs : List Oper) : Bool:=ws.all fun w=>match w.dst with
 | none=>true
 | some k=>rs.all fun o=>!(o.dst==some k)&&!((o.looksAt ops.toArray).contains k)
def okRow (ops : List Oper) (len : Nat) (dn : List Nat) (r : Row) : Bool :=
 ((r.f1++r.f2).all fun i=>dn.elem i || r.p.elem i)&&apartOf ops (pickOps ops [r.c]) (pickOps ops r.keep)&&apartOf ops (pickOps ops r.p) (pickOps ops r.keep)&&steady ops.toArray len (pickOps ops r.p)&&(r.keep.all fun i=>dn.elem i)
def okRows (ops : List Oper) (len : Nat) : List Nat→List Row→Bool
 | _,[]=>true
 | dn,r::rs=>okRow ops len dn r&&okRows ops len (r.f1++r.f2) rs
theorem apart_spec {ops ws rs : List Oper} (h : apartOf ops ws rs=true) {w o : Oper} {k : Tmp} (hw : w∈ws) (ho : o∈rs) (hk : w.dst=some k) : o.dst≠some k∧k ∉ o.looksAt ops.toArray:=by
 unfold apartOf at h
 rw [List.all_eq_true] at h
 have:=h w hw
 rw [hk] at this
 simp only [List.all_eq_true] at this
 have:=this o ho
 simpa using this
theorem rows_go {ops : List Oper} {len : Nat} : ∀ (rows : List Row) (dn : List Nat) (F : List AV) (H : AH),okRows ops len dn rows=true→(∀ r∈rows,(∀ o∈pickOps ops r.f1,pureOp T o.op=true))→F.length=len→(∀ o∈pickOps ops dn,chkC1 T G C ops F H o)→evRows T G C ops K rows F H→evPT T G C ops K (rowPT rows) F H
 | [],_,_,_,_,_,_,_,h=>h
 | r::rs,dn,F,H,hok,hp,hlen,hrec,h=>by
   simp only [okRows,Bool.and_eq_true,okRow,List.all_eq_true] at hok
   obtain ⟨⟨⟨⟨⟨k1,k2⟩,k3⟩,k4⟩,k6⟩,k5⟩:=hok
   refine ⟨?_,trivial⟩
   have behind : ∀ F1 H1,F1.length=len→(∀ w∈pickOps ops [r.c],∀ j,(∀ k,w.dst=some k→j≠k)→F1[j]?=F[j]?)→(pickOps ops [r.c]=[]→F1=F)→(((pickOps ops r.quiet).all (stills T G F1)=true∧chkCs T G C ops F1 H1 (pickOps ops r.hv))∧evAt T G C ops.toArray true (fun F2 H2=>evRows T G C ops K rs F2 H2) (pickOps ops r.p) 0 F1 H1) →
     evList T G C ops.toArray (fun F2 H2=>H2=H1∧chks T G ops F2 H2 (pickOps ops r.f1)∧(chkCs T G C ops F2 H2 (pickOps ops r.f2)∧evPT T G C ops K (rowPT rs) F2 H2)) (pickOps ops r.p) F1 H1:=fun F1 H1 l1 agr agr0 ⟨⟨q1,q2⟩,q3⟩=>by
    rw [List.all_eq_true] at q1
    have hkeep : ∀ o∈pickOps ops r.keep,chkC1 T G C ops F1 H1 o:=fun o ho=>by
     have hF : (∀ k,o.dst=some k→F1[k]?=F[k]?)∧∀ k∈o.looksAt ops.toArray,F1[k]?=F[k]?:=by
      cases hc : pickOps ops [r.c] with
      | nil=>rw [agr0 hc]; exact ⟨fun _ _=>rfl,fun _ _=>rfl⟩
      | cons w ws =>
        have hw : w∈pickOps ops [r.c]:=by rw [hc]; simp
        refine ⟨fun k hk=>agr w hw k fun j hj e=>?_,fun k hk=>agr w hw k fun j hj e=>?_⟩
        ·subst e; exact (apart_spec k2 hw ho hj).1 hk
        ·subst e; exact (apart_spec k2 hw ho hj).2 hk
     obtain ⟨i,hi,hio⟩:=mem_pick.1 ho
     by_cases hh : r.hv.elem i=true
     ·exact chkCs_mem q2 (mem_pick.2 ⟨i,by simpa using hh,hio⟩)
     ·have hd : i∈dn:=by simpa using k6 i hi
      have hq : i∈r.quiet:=List.mem_filter.2 ⟨hi,by simp only [Bool.not_eq_true] at hh; rw [hh]; rfl⟩
      have hst:=q1 o (mem_pick.2 ⟨i,hq,hio⟩)
      exact chk_move (hrec o (mem_pick.2 ⟨i,hd,hio⟩)) (.inr hst) hF.1 hF.2
    refine evW_go _ _ _ q3 fun F2 hF2 ha=>?_
    obtain ⟨a1,a2,a3⟩:=ha
    have hst3:=a3 (by rw [l1]; exact k4)
    have hall : ∀ i∈r.f1++r.f2,∀ o,ops[i]?=some o→chkC1 T G C ops F2 H1 o:=fun i hi o hio=>by
     by_cases hip : r.p.elem i=true
     ·have:=hst3 o (mem_pick.2 ⟨i,by simpa using hip,hio⟩)
      simpa using this
     ·have hik : i∈r.keep:=List.mem_filter.2 ⟨hi,by simp only [Bool.not_eq_true] at hip; rw [hip]; rfl⟩
      have hok:=mem_pick.2 ⟨i,hik,hio⟩
      refine chk_move (hkeep o hok) (.inl rfl) (fun k hk=>a2 k fun w hw e=>?_) (fun k hk=>a2 k fun w hw e=>?_)
      ·exact (apart_spec k3 hw hok e).1 hk
      ·exact (apart_spec k3 hw hok e).2 hk
    refine ⟨rfl,chks_all fun o ho=>?_,chkCs_all fun o ho=>?_,rows_go rs (r.f1++r.f2) F2 H1 k5 (fun r' hr'=>hp r' (List.mem_cons_of_mem _ hr')) (a1.symm.trans l1) (fun o ho=>?_) hF2⟩
    ·obtain ⟨i,hi,hio⟩:=mem_pick.1 ho
     exact chk_of_chkC (hp r (by simp) o ho) (hall i (List.mem_append_left _ hi) o hio)
    ·obtain ⟨i,hi,hio⟩:=mem_pick.1 ho
     exact hall i (List.mem_append_right _ hi) o hio
    ·obtain ⟨i,hi,hio⟩:=mem_pick.1 ho
     exact hall i hi o hio
   unfold evRows at h
   cases hc : ops[r.c]? with
   | none =>
     have e : pickOps ops [r.c]=[]:=by simp [pickOps,hc]
     rw [e] at h
     have h : evW T G C ops.toArray false _ [] F H:=h
     exact behind F H hlen (fun w hw=>by rw [e] at hw; simp at hw) (fun _=>rfl) h
   | some o =>
     have e : pickOps ops [r.c]=[o]:=by simp [pickOps,hc]
     rw [e] at h
     have put : ∀ v,(aput F o.dst v).length=len∧∀ j,(∀ k,o.dst=some k→j≠k)→(aput F o.dst v)[j]?=F[j]?:=fun v=>by
      unfold aput
      cases hd : o.dst with
      | none=>exact ⟨hlen,fun _ _=>rfl⟩
      | some d=>exact ⟨by rw [List.length_set]; exact hlen,fun j hj=>by rw [List.getElem?_set_ne (fun e=>hj d rfl e.symm)]⟩
     have he : ∀ w∈pickOps ops [r.c],w=o:=fun w hw=>by rw [e] at hw; simpa using hw
     show evList T G C ops.toArray _ [o] F H
     have h : evW T G C ops.toArray false _ [o] F H:=h
     rw [evW] at h
     unfold evList
     split at h
     ·rename_i hw
      obtain ⟨v,H1,g1,_,g2⟩:=h
      rw [if_pos hw]
      exact g1 _ (behind _ H1 (put v).1 (fun w hw=>by rw [he w hw]; exact (put v).2) (fun e'=>by rw [e] at e'; cases e') g2)
     ·rename_i hw
      rw [if_neg hw]
      exact behind _ H (put _).1 (fun w hw=>by rw [he w hw]; exact (put _).2) (fun e'=>by rw [e] at e'; cases e') h
def p0At (T : TT) (cp : Nat) (ops : List Oper) : List Nat:=idxs (fun i o=>free T cp i o&&enabled (masksGo ops []) (linksOf (free T cp) ops) i) ops
def f1At (T : TT) (cp : Nat) (ops : List Oper) : List Nat:=idxs (fun i o=>cp.testBit i&&pureOp T o.op&&enabled (masksGo ops []) (linksOf (free T cp) ops) i) ops
def f2At (T : TT) (cp : Nat) (ops : List Oper) : List Nat:=idxs (fun i o=>cp.testBit i&&isCallOp o.op&&enabled (masksGo ops []) (linksOf (free T cp) ops) i) ops
theorem x_rows {c : Code} (gr cp : Nat) (rows : List Row) (hC : Ends C) (hCm : Mono C) (hc : c.kind=2)
  (hok : (treeOk T cp gr c.ops (p0At T cp c.ops) (f1At T cp c.ops) (f2At T cp c.ops) (rowPT rows)&&steady c.ops.toArray fr.length (pickOps c.ops (p0At T cp c.ops))&&(f1At T cp c.ops++f2At T cp c.ops).all (fun i=>(p0At T cp c.ops).contains i)&&okRows c.ops fr.length (f1At T cp c.ops++f2At T cp c.ops) rows&&rows.all fun r=>(pickOps c.ops r.f1).all fun o=>pureOp T o.op)=true)
  (h : evAt T G C c.ops.toArray true (fun F H=>evRows T G C c.ops (fun F H=>∃ fr' H',VS n F H fr' H'∧Q .normal fr' H') rows F H) (pickOps c.ops (p0At T cp c.ops)) 0 fr H) : ev T G mx C n c fr H Q:=by
 cases c with
 | region id ops d =>
   cases d with
   | false=>simp [Code.kind] at hc
   | true =>
     simp only [Code.ops,Array.toArray_toList] at hok h
     generalize hl : ops.toList=l at hok h
     obtain rfl : ops=l.toArray:=by rw [← hl]
     simp only [Bool.and_eq_true,List.all_eq_true] at hok
     obtain ⟨⟨⟨⟨h1,h2⟩,h3⟩,h4⟩,h5⟩:=hok
     refine go_tree id cp gr _ _ _ (rowPT rows) hC hCm h1 ?_
     refine evW_go _ _ _ h fun F hK ha=>?_
     obtain ⟨a1,a2,a3⟩:=ha
     have hst:=a3 h2
     have hall : ∀ i∈f1At T cp l++f2At T cp l,∀ o,l[i]?=some o→chkC1 T G C l F H o:=fun i hi o hio=>by
      have:=hst o (mem_pick.2 ⟨i,by simpa using h3 i hi,hio⟩)
      simpa using this
     refine ⟨rfl,chks_all fun o ho=>?_,chkCs_all fun o ho=>?_,rows_go rows _ F H h4 (fun r hr o ho=>h5 r hr o ho) a1.symm (fun o ho=>?_) hK⟩
     ·obtain ⟨i,hi,hio⟩:=mem_pick.1 ho
      refine chk_of_chkC ?_ (hall i (List.mem_append_left _ hi) o hio)
      exact pick_pure (fun i o hq=>by simp only [Bool.and_eq_true] at hq; exact hq.1.2) o ho
     ·obtain ⟨i,hi,hio⟩:=mem_pick.1 ho
      exact hall i (List.mem_append_right _ hi) o hio
     ·obtain ⟨i,hi,hio⟩:=mem_pick.1 ho
      exact hall i hi o hio
 | _=>simp [Code.kind] at hc
end
end Go.Abs
namespace Go.Abs
theorem RL.set_at {x y : Cx} {b : AV} : ∀ {as : List AV} {vs : List Value} {k : Nat} {a : AV},RL x as vs→as[k]?=some a→(∀ a v,R x a v→R y a v)→(∀ v,R x a v→R y b v)→RL y (as.set k b) vs
 | [],_,_,_,_,h,_,_=>by simp at h
 | c::as,vs,0,a,hl,h,h1,h2=>by
   simp only [RL] at hl
   obtain ⟨v,r,rfl,g1,g2⟩:=hl
   simp at h
   subst h
   simp only [List.set_cons_zero,RL]
   refine ⟨v,r,rfl,h2 v g1,?_⟩
   clear g1 h2
   induction as generalizing r with
   | nil=>simpa [RL] using g2
   | cons d as ih =>
     simp only [RL] at g2 ⊢
     obtain ⟨u,s,rfl,k1,k2⟩:=g2
     exact ⟨u,s,rfl,h1 _ _ k1,ih s k2⟩
 | c::as,vs,k+1,a,hl,h,h1,h2=>by
   simp only [RL] at hl
   obtain ⟨v,r,rfl,g1,g2⟩:=hl
   simp at h
   simp only [List.set_cons_succ,RL]
   exact ⟨v,r,rfl,h1 _ _ g1,RL.set_at g2 h h1 h2⟩
theorem lit_own {x : Cx} {nl : Bool} {cs : List AV} {len sz : Nat} {v : Value} (h : R x (.lit nl true cs len) v) (hc : cs.length=len * sz) (k3 : Keeps x (x.newV (0,0) 1 false x.w)) : R (x.newV (0,0) 1 false x.w) (.own x.N 1 nl cs len sz) v:=by
 have h9:=R.keeps k3 _ _ h
 simp only [R] at h9 ⊢
 refine ⟨⟨Nat.lt_succ_self _,Nat.one_pos,by rw [(x.newV_at _ _ _ _).2.1]; exact Nat.le_refl _,hc⟩,?_⟩
 rcases h9 with h|⟨h0,b,o,cap,vs,h1,h2,h3,h4,h5,h6,h7,h8⟩
 ·exact .inl h
 ·exact .inr ⟨h0,b,o,cap,vs,h1,h2,h3,h5,h6,h7,h8,fun _=>.inl (h4 trivial)⟩
theorem VS.thaw {n : Nat} {fr : List AV} {H : AH} {α : Type} (c : α→List AV) (k sz : Nat) (s : Sl α) (h : fr[k]?=some (sl c s)) (hx : s.ex=true) (hc : ∀ y,(c y).length=sz) : VS n fr H (fr.set k (ownv c H.length 1 sz s)) (H++[.room 1 false]):=by
 intro x vs hr hn hl
 obtain ⟨k1,k2,k3⟩:=hr.pushV (0,0) 1 false (.room 1 false) x.w (Nat.le_refl _) (fun _ _=>rfl) rfl rfl rfl (fun e=>by cases e) (fun _=>⟨(x.newV_at _ _ _ _).2.1,Nat.one_pos,(x.newV_at _ _ _ _).2.2,fun e=>by cases e⟩)
 refine ⟨x.newV (0,0) 1 false x.w,rfl,k1.mono hn,k2,hl.set_at h (fun a v=>R.keeps k3 a v) fun v hv=>?_⟩
 unfold sl at hv
 rw [hx] at hv
 unfold ownv
 rw [← hr.N]
 exact lit_own hv (flat_len hc _) k3
end Go.Abs
namespace Go.Abs
def idxR {α : Type} (off len : Nat) (b : List α) (m : Int) : Option α:=if 0≤m∧m.toNat < len then b[off+m.toNat]? else none
theorem idxR_spec {α : Type} {off len : Nat} {b : List α} {m : Int} {y : α} (h : idxR off len b m=some y) : 0≤m∧m.toNat < len∧b[off+m.toNat]?=some y:=by
 unfold idxR at h
 split at h
 ·rename_i hc
  exact ⟨hc.1,hc.2,h⟩
 ·cases h
theorem idxR_at {α : Type} {off len : Nat} {b : List α} {m : Int} {y : α} (h : idxR off len b m=some y) : b[off+m.toNat]?=some y:=(idxR_spec h).2.2
def Sl.put {α : Type} (b : Sl α) (j : Nat) (y : α) : Sl α:=⟨b.nl,b.ex,b.l.set j y⟩
section
variable {T : TT} {G : Nat→Option (List AV)} {C : ACall} {A : Array Oper} {q : Bool} {K : List AV→AH→Prop} {mx : Bool} {n : Nat} {fr : List AV} {H : AH} {Q : APost} {L : List Oper} {i : Nat}
theorem w_siaddr {α : Type} {t e : TypeId} {l sz len off : Nat} {ex nl : Bool} {kd : IntKind} {b : List α} {m : Int} {y : α} (hy : idxR off len b m=some y) (h : seeIA G fr (opAt A L i fr)=some (.ref ex nl l (off * sz) len sz,.int kd m,t)) (ht : (T t).d=.slice e) (hs : (T e).size=sz)
  (hk : evAt T G C A q K L (i+1) (aput fr (dstAt L i) (.ptr l ((off+m.toNat) * sz))) H) : evAt T G C A q K L i fr H:=by
 obtain ⟨m1,m3,m2⟩:=idxR_spec hy
 unfold seeIA at h
 split at h
 ·rename_i t' x' y' ho
  split at h
  ·rename_i v w hv hw
   cases h
   refine w_op ho (v:=.ptr l ((off+m.toNat) * sz)) (H':=H) ?_ (fun _=>rfl) hk
   simp only [aop,hv,hw,aindexAddr,ht]
   rw [if_pos ⟨hs,m1,by omega⟩,Nat.add_mul]
   rfl
  ·cases h
 ·cases h
theorem splice_at {α : Type} {c : α→List AV} {sz fo : Nat} {y y' : α} {vs : List AV} (hc : ∀ y,(c y).length=sz) (hw : splice (c y) fo vs=c y') (hf : fo+vs.length≤sz) : ∀ (l : List α) (j : Nat),l[j]?=some y→splice (l.flatMap c) (j * sz+fo) vs=(l.set j y').flatMap c
 | [],j,h=>by simp at h
 | a::l,0,h=>by
   simp only [List.getElem?_cons_zero,Option.some.injEq] at h
   subst h
   rw [List.set_cons_zero,List.flatMap_cons,List.flatMap_cons,← hw,Nat.zero_mul,Nat.zero_add]
   unfold splice
   have h1:=hc a
   rw [List.take_append_of_le_length (by omega),List.drop_append_of_le_length (by omega)]
   simp only [List.append_assoc]
 | a::l,j+1,h=>by
   simp only [List.getElem?_cons_succ] at h
   have ih:=splice_at hc hw hf l j h
   rw [List.set_cons_succ,List.flatMap_cons,List.flatMap_cons,← ih]
   unfold splice
   have h1:=hc a
   have e1 : (j+1) * sz+fo=(c a).length+(j * sz+fo):=by rw [Nat.add_mul,h1]; omega
   have e2 : (j+1) * sz+fo+vs.length=(c a).length+(j * sz+fo+vs.length):=by omega
   rw [e1,List.take_length_add_append,Nat.add_assoc,List.drop_length_add_append,List.append_assoc,List.append_assoc]
   simp only [List.append_assoc]
theorem splice_all {a b : List AV} (h : a.length=b.length) : splice a 0 b=b:=by
 unfold splice
 simp [h]
theorem rfb_put {α : Type} {c : α→List AV} {b : Sl α} {j : Nat} {y y' : α} (hy : b.l[j]?=some y) : rfb c (b.put j y')=.cells ((b.l.set j y').flatMap c):=by
 unfold rfb Sl.put
 cases hb : b.l with
 | nil=>rw [hb] at hy; simp at hy
 | cons a l=>cases j<;>simp
theorem w_rstore {α : Type} (c : α→List AV) {l sz fo j : Nat} (b : Sl α) {y : α} (y' : α) {v : AV} {z : Nat} {vs : List AV} (hy : b.l[j]?=some y) (h : seeStoreP T G fr (opAt A L i fr)=some (.ptr l (j * sz+fo),v,true,z)) (hv : acell v=some vs) (hz : vs.length=z) (hH : H[l]?=some (rfb c b)) (hc : ∀ y,(c y).length=sz) (hw : splice (c y) fo vs=c y') (hf : fo+z≤sz)
  (hk : evAt T G C A false K L (i+1) (aput fr (dstAt L i) (.tup [])) (H.set l (rfb c (b.put j y')))) : evAt T G C A false K L i fr H:=by
 unfold seeStoreP at h
 split at h
 ·rename_i t x w ho
  split at h
  ·rename_i p u hp hu
   simp only [Option.some.injEq,Prod.mk.injEq] at h
   obtain ⟨rfl,rfl,h1,h2⟩:=h
   have hlt:=(List.getElem?_eq_some_iff.1 hy).1
   have hle : j * sz+fo+vs.length≤(b.l.flatMap c).length:=by
    rw [flat_len hc]
    have h1 : (j+1) * sz≤b.l.length * sz:=Nat.mul_le_mul_right sz (Nat.succ_le_of_lt hlt)
    rw [Nat.add_mul,Nat.one_mul] at h1
    omega
   refine w_op ho ?_ (fun e=>by cases e) hk
   simp only [aop,hp,hu,astore,hv,h1,h2,hz,awrite,hH,rfb_some hy]
   rw [if_pos ⟨trivial,trivial⟩,← hz,if_pos hle,splice_at hc hw (by omega) b.l j hy,rfb_put hy]
   rfl
  ·cases h
 ·cases h
end
end Go.Abs
namespace Go.Abs
section
variable {T : TT} {G : Nat→Option (List AV)} {C : ACall} {A : Array Oper} {q : Bool} {K : List AV→AH→Prop} {mx : Bool} {n : Nat} {fr : List AV} {H : AH} {Q : APost} {L : List Oper} {i : Nat}
theorem we (h : K fr H) (hl : Nat.ble L.length i=true:=by kernel_rfl) : evAt T G C A q K L i fr H:=w_end hl h
theorem xs {c : Code} (h : ev T G mx C n c.l fr H (AX.then (fun fr H=>∃ fr2 H2,VS n fr H fr2 H2∧ev T G mx C n c.r fr2 H2 Q) Q)) (hc : c.kind=3:=by kernel_rfl) : ev T G mx C n c fr H Q:=x_seq hc h
theorem xr {c : Code} (h : evAt T G C c.ops.toArray false (Q .normal) c.ops 0 fr H) (hc : c.kind=1:=by kernel_rfl) : ev T G mx C n c fr H Q:=x_region hc h
theorem xq {c : Code} (h : evAt T G C c.l.ops.toArray false (AX.then (fun fr H=>∃ fr2 H2,VS n fr H fr2 H2∧ev T G mx C n c.r fr2 H2 Q) Q .normal) c.l.ops 0 fr H) (hc : c.kind=3:=by kernel_rfl) (hd : c.l.kind=1:=by kernel_rfl) : ev T G mx C n c fr H Q:=x_seq hc (x_region hd h)
theorem xT {c : Code} (h : ev T G mx C n c.l fr H Q) (hc : c.kind=4:=by kernel_rfl) (hv : aval G fr c.opnd=some (.bool true):=by kernel_rfl) : ev T G mx C n c fr H Q:=x_cond hc hv h
theorem xF {c : Code} (h : ev T G mx C n c.r fr H Q) (hc : c.kind=4:=by kernel_rfl) (hv : aval G fr c.opnd=some (.bool false):=by kernel_rfl) : ev T G mx C n c fr H Q:=x_cond hc hv h
theorem kT (k : Nat) {c : Code} {b0 : Bool} (hc : b0=true) (hk : ev T G mx C n c (fr.set k (.bool true)) H Q) (h : boolAt fr k=some b0:=by kernel_rfl) : ev T G mx C n c fr H Q:=x_set k h hc hk
theorem kF (k : Nat) {c : Code} {b0 : Bool} (hc : b0=false) (hk : ev T G mx C n c (fr.set k (.bool false)) H Q) (h : boolAt fr k=some b0:=by kernel_rfl) : ev T G mx C n c fr H Q:=x_set k h hc hk
theorem ng {c : Code} (h : ev T G mx C n c fr H Q) {Q' : APost} : AX.then (fun fr H=>∃ fr2 H2,VS n fr H fr2 H2∧ev T G mx C n c fr2 H2 Q) Q' .normal fr H:=then_n (go_same h)
theorem wr (j : Nat) (H' : AH) (h : evAt T G C A false K L j (((kRun T G A ((L.drop i).take (j - i)) fr H).map (·.1)).getD []) H') (hij : Nat.ble i j=true:=by kernel_rfl) (hs : (kRun T G A ((L.drop i).take (j - i)) fr H).map (·.2)=some H':=by kernel_rfl) : evAt T G C A false K L i fr H:=w_run j H' hij hs h
theorem wh (j : Nat) (h : evAt T G C A false K L j (((kRun T G A ((L.drop i).take (j - i)) fr H).map (·.1)).getD []) H) (hij : Nat.ble i j=true:=by kernel_rfl) (hs : (kRun T G A ((L.drop i).take (j - i)) fr H).map (·.2)=some H:=by kernel_rfl) : evAt T G C A false K L i fr H:=w_run j H hij hs h
theorem wp (j : Nat) (h : evAt T G C A q K L j ((kRunQ T G A ((L.drop i).take (j - i)) fr H).getD []) H) (hij : Nat.ble i j=true:=by kernel_rfl) (hs : (kRunQ T G A ((L.drop i).take (j - i)) fr H).isSome=true:=by kernel_rfl) : evAt T G C A q K L i fr H:=w_pure j hij hs h
theorem xk {c : Code} (h : Q .normal fr H) (hc : c.kind=0:=by kernel_rfl) : ev T G mx C n c fr H Q:=x_skip (.inl hc) h
theorem xt {c : Code} (h : Q .ret fr H) (hc : c.kind=10:=by kernel_rfl) : ev T G mx C n c fr H Q:=x_ret hc h
theorem xb {c : Code} (h : ev T G mx C n c.l fr H (AX.inBlock c.num Q)) (hc : c.kind=5:=by kernel_rfl) : ev T G mx C n c fr H Q:=x_block hc h
theorem xe {c : Code} (h : Q (.exit c.num) fr H) (hc : c.kind=7:=by kernel_rfl) : ev T G mx C n c fr H Q:=x_exit hc h
theorem xj {c : Code} (J : List AV→AH→Prop) (hb : ∀ fr H,J fr H→ev T G mx C n c.r fr H Q) (ha : (∀ fr H,J fr H→ev T G mx C n c.r fr H Q)→ev T G mx C n c.l fr H (AX.then (fun fr H=>∃ fr2 H2,VS n fr H fr2 H2∧ev T G mx C n c.r fr2 H2 Q) Q)) (hc : c.kind=3:=by kernel_rfl) : ev T G mx C n c fr H Q:=x_join J hc hb ha
theorem xd {c : Code} (gr : Nat) (hC : Ends C) (hCm : Mono C) (h : evAt T G C c.ops.toArray true (fun F H=>∃ fr' H',VS n F H fr' H'∧Q .normal fr' H') (pickOps c.ops (p0Of T c.ops)) 0 fr H) (hc : c.kind=2:=by kernel_rfl) (hok : drawnOk T gr fr.length c.ops=true:=by kernel_rfl) : ev T G mx C n c fr H Q:=x_drawn gr hC hCm hc hok h
theorem de {P : List AV→AH→Prop} (h : P fr H) : ∃ fr' H',VS n fr H fr' H'∧P fr' H':=⟨_,_,VS.refl _ _ _,h⟩
theorem uI {α : Type} (c : α→List AV) (sz : Nat) {l : List α} {m : Int} {y : α} (hy : idxL l m=some y) (hc : ∀ y,(c y).length=sz) (hk : evAt T G C A q K L (i+1) (aput fr (dstAt L i) (.lptr (l.flatMap c) (m.toNat * sz))) H) (h : seeIaddr T G fr (opAt A L i fr)=some (l.flatMap c,l.length,m,sz):=by kernel_rfl) (h0 : 0 < sz:=by decide) : evAt T G C A q K L i fr H:=w_iaddr c hy h h0 hc hk
theorem uE {α : Type} (c : α→List AV) (fo : Nat) {t : TypeId} (sz z : Nat) {l : List α} {m : Int} {y : α} {v : AV} (hy : idxL l m=some y) (hc : ∀ y,(c y).length=sz) (hk : evAt T G C A q K L (i+1) (aput fr (dstAt L i) v) H) (h : seeLoad T G fr (opAt A L i fr)=some (t,l.flatMap c,m.toNat * sz+fo,z):=by kernel_rfl) (hv : apart T t (c y) fo=some v:=by kernel_rfl) (hz : fo+z≤sz:=by decide) (hf : fo < sz:=by decide) : evAt T G C A q K L i fr H:=w_elem c fo hy h hv hc hz hf hk
theorem uC {P : Program} {g : FuncId} {as : List AV} {v : AV} (hc : EvCall P T G g as [] (fun r H'=>r=v∧H'=[])) (ha : lows 0 as=true) (hv : v.low 0=true) (hk : evAt T G (EvCall P T G) A q K L (i+1) (aput fr (dstAt L i) v) H) (h : seeCallW G fr (opAt A L i fr)=some (g,as):=by kernel_rfl) : evAt T G (EvCall P T G) A q K L i fr H:=w_pcallW hc h ha hv hk
theorem uO {P : Program} {g : FuncId} {as0 : List AV} {h0 h1 : AH} {v0 v : AV} (s p : List Nat) (h2 H2 : AH) (hc : EvCall P T G g as0 h0 (fun r H'=>r=v0∧H'=h1)) (a2 : tights as0=true) (a3 : PlH s s.length H s h0) (b2 : v0.tight=true) (b3 : SBs p h1.length h1 h2) (hk : evAt T G (EvCall P T G) A false K L (i+1) (aput fr (dstAt L i) v) H2)
  (h : seeCallW G fr (opAt A L i fr)=some (g,mrens s as0):=by kernel_rfl) (hs : (decide s.Nodup&&decide (s.length≤h1.length)&&decide (posOf H s h1=p)&&srefs s.length as0&&v0.sref h1.length)=true:=by kernel_rfl) (b1 : v0.mren p=v:=by kernel_rfl) (b4 : putRaw (H++List.replicate (h1.length - s.length) .dead) p h2=H2:=by kernel_rfl) : evAt T G (EvCall P T G) A false K L i fr H :=
 w_ocall s p hc h hs rfl a2 a3 b1 b2 b3 b4 (fun e=>by cases e) hk
theorem uOs {P : Program} {g : FuncId} {as0 : List AV} {h0 h1 : AH} {v0 v : AV} (s p : List Nat) (h2 : AH) (hc : EvCall P T G g as0 h0 (fun r H'=>r=v0∧H'=h1)) (a2 : tights as0=true) (a3 : PlH s s.length H s h0) (b2 : v0.tight=true) (b3 : SBs p h1.length h1 h2) (hk : evAt T G (EvCall P T G) A q K L (i+1) (aput fr (dstAt L i) v) H)
  (h : seeCallW G fr (opAt A L i fr)=some (g,mrens s as0):=by kernel_rfl) (hs : (decide s.Nodup&&decide (s.length≤h1.length)&&decide (posOf H s h1=p)&&srefs s.length as0&&v0.sref h1.length)=true:=by kernel_rfl) (b1 : v0.mren p=v:=by kernel_rfl) (b4 : putRaw (H++List.replicate (h1.length - s.length) .dead) p h2=H:=by kernel_rfl) : evAt T G (EvCall P T G) A q K L i fr H :=
 w_ocall s p hc h hs rfl a2 a3 b1 b2 b3 b4 (fun _=>rfl) hk
end
theorem xc {P : Program} {T : TT} {G : Nat→Option (List AV)} {H : AH} {f : FuncId} {fn : Func} {args fr0 : List AV} {k : AV→AH→Prop} (h1 : P.funcs[f]?=some fn) (h4 : ev T G (P.follows .mixedOrders) (EvCall P T G) H.length (bodyOf fn) fr0 H (fun e fr H'=>(match e with|.exit _=>False|_=>True)∧∃ r,aresults T fn fr H'=some r∧∃ r' H'',VS H.length [r] H' [r'] H''∧k r' H'')) (h2 : fn.body=some (bodyOf fn):=by kernel_rfl) (h3 : (fn.name == "runtime.NumGoroutine")=false:=by kernel_rfl) (h0 : args++List.replicate (fn.ntmps - args.length) (.tup [])=fr0:=by rfl) : EvCall P T G f args H k:=x_call h1 h2 h3 h0 h4
theorem fE {T : TT} {n : Nat} {fr : List AV} {H : AH} {e : AX} {fn : Func} {k : AV→AH→Prop} {v : AV} (H2 : AH) (he : e=.ret∨e=.normal) (hl : v.low H2.length=true) (hk : k v H2) (hr : (aresults T fn fr H).map AV.plain=some v:=by kernel_rfl) (h2 : H.take H2.length=H2:=by kernel_rfl) (hn : Nat.ble n H2.length=true:=by kernel_rfl) (hw : wf H2=true:=by kernel_rfl) :
  (match e with|.exit _=>False|_=>True)∧∃ r,aresults T fn fr H=some r∧∃ r' H'',VS n [r] H [r'] H''∧k r' H'':=fin_end he hr h2 (Nat.le_of_ble_eq_true hn) hl hw hk
theorem fS {T : TT} {n : Nat} {fr : List AV} {H H2 : AH} {e : AX} {fn : Func} {k : AV→AH→Prop} {v : AV} (s : List Nat) (he : e=.ret∨e=.normal) (h3 : v.tight=true) (hH : ShH s H s H2) (hk : k v H2) (h0 : (aresults T fn fr H).isSome=true:=by kernel_rfl) (hs : (decide (s.take n=List.range n)&&decide (n≤s.length)&&decide s.Nodup)=true:=by kernel_rfl) (h1 : srens s [((aresults T fn fr H).getD (.tup [])).plain]=[v]:=by kernel_rfl) (h2 : srefs s.length [v]=true:=by kernel_rfl) :
  (match e with|.exit _=>False|_=>True)∧∃ r,aresults T fn fr H=some r∧∃ r' H'',VS n [r] H [r'] H''∧k r' H'':=fin_sh s he h0 hs h1 h2 h3 hH hk
theorem VS.sm {n : Nat} {fr fr2 : List AV} {H H2 : AH} (m : Nat) (h1 : forget2 m fr=fr2:=by kernel_rfl) (h2 : H=H2:=by kernel_rfl) : VS n fr H fr2 H2:=VS.same2 m h1 h2
theorem VS.si {n : Nat} {fr fr2 : List AV} {H H2 : AH} (s : List Nat) (m : Nat) (h3 : tights fr2=true) (hH : ShH s H s H2) (hs : (decide (s.take n=List.range n)&&decide (n≤s.length)&&decide s.Nodup)=true:=by kernel_rfl) (h1 : srens s (forget2 m fr)=fr2:=by kernel_rfl) (h2 : srefs s.length fr2=true:=by kernel_rfl) : VS n fr H fr2 H2:=VS.sh s m hs h1 h2 h3 hH
end Go.Abs
namespace Go.Abs
def cutA (n : Nat) (lo hi : Option Int) : Option (Nat×Nat):=match boundI lo 0,boundI hi n with
 | some l,some h=>if l≤h∧h≤n then some (l,h - l) else none
 | _,_=>none
theorem cutA_spec {n : Nat} {lo hi : Option Int} {p : Nat×Nat} (h : cutA n lo hi=some p) : p.1+p.2≤n:=by
 unfold cutA at h
 split at h
 ·split at h
  ·cases h; simp only; omega
  ·cases h
 ·cases h
def Arr.over {n : Nat} (a : Arr n) (o : Nat) (vs : List Int) : Arr n:=if h : o+vs.length≤n then ⟨a.l.take o++(vs++a.l.drop (o+vs.length)),by have:=a.h; simp; omega⟩ else a
theorem cA_map {k : IntKind} {n : Nat} (a : Arr n) : cA k a=a.l.map (AV.int k):=by
 refine List.ext_getElem? fun j=>?_
 by_cases hj : j < n
 ·rw [cA_get a hj,List.getElem?_map]
  unfold Arr.at
  rw [List.getD_eq_getElem?_getD,List.getElem?_eq_getElem (by rw [a.h]; exact hj)]
  rfl
 ·rw [List.getElem?_eq_none (by rw [cA_len]; omega),List.getElem?_eq_none (by simp [a.h]; omega)]
theorem byte_cells (l : List Int) : (l.map (AV.int .u8)).mapM byteOf?=some (bytesS l):=by
 induction l with
 | nil=>rfl
 | cons x l ih=>simp [byteOf?,ih,bytesS]
section
variable {T : TT} {G : Nat→Option (List AV)} {C : ACall} {A : Array Oper} {q : Bool} {K : List AV→AH→Prop} {mx : Bool} {n : Nat} {fr : List AV} {H : AH} {Q : APost} {L : List Oper} {i : Nat}
def seeAS (T : TT) (G : Nat→Option (List AV)) (fr : List AV) : Option Op→Option (AV×Option Int×Option Int×Nat×Nat)
 | some (.slice t x lo hi none)=>match (T t).d,aval G fr x,seeBd G fr lo,seeBd G fr hi with
   | .arr n e,some v,some l,some h=>some (v,l,h,n,(T e).size)
   | _,_,_,_=>none
 | _=>none
theorem w_aslice {l o m : Nat} {lo hi : Option Int} {p : Nat×Nat} (hp : cutA m lo hi=some p) (hk : ∀ ex,evAt T G C A q K L (i+1) (aput fr (dstAt L i) (.ref ex false l (o+p.1) p.2 1)) H) (h : seeAS T G fr (opAt A L i fr)=some (.ptr l o,lo,hi,m,1):=by kernel_rfl) (hb : isCells H l=true:=by kernel_rfl) (hl : (Nat.ble (o+m) (cellsOf H l).length&&Nat.ble m maxLen)=true:=by kernel_rfl) : evAt T G C A q K L i fr H:=by
 rw [Bool.and_eq_true] at hl
 obtain ⟨hl1,hl2⟩:=hl
 have hl1:=Nat.le_of_ble_eq_true hl1
 have hl2:=Nat.le_of_ble_eq_true hl2
 unfold seeAS at h
 split at h
 ·rename_i t x l0 h0 ho
  split at h
  ·rename_i n' e v l1 h1 g1 g2 g3 g4
   simp only [Option.some.injEq,Prod.mk.injEq] at h
   obtain ⟨rfl,rfl,rfl,rfl,hs⟩:=h
   obtain ⟨k3,g3⟩:=seeBd_spec g3
   obtain ⟨k4,g4⟩:=seeBd_spec g4
   have hbd : ∀ (v : Option Int) (k : IntKind) (d : Nat),boundOf (v.map (AV.int k ·)) d=boundI v d:=fun v k d=>by
    cases v with
    | none=>rfl
    | some n=>simp [boundOf,numOf,boundI]
   have hn : (none : Option Operand).mapM (aval G fr)=some none:=rfl
   unfold cutA at hp
   split at hp
   ·rename_i a c b1 b2
    split at hp
    ·rename_i hc
     cases hp
     refine w_op ho (v:=.ref (c==n') false l (o+a) (c - a) 1) (H':=H) ?_ (fun _=>rfl) (hk _)
     simp only [aop,g2,g3,g4,hn,aslice,g1,cells_of hb,hbd,b1,b2,hs,Nat.mul_one]
     rw [if_pos ⟨hl1,hl2,hc.1,hc.2⟩]
     rfl
    ·cases hp
   ·cases hp
  ·cases h
 ·cases h
def seeCopy (T : TT) (G : Nat→Option (List AV)) (fr : List AV) : Option Op→Option (AV×AV×Nat)
 | some (.call { callee:=.builtin .copy,args,argTypes })=>match args.toList.mapM (aval G fr) with
   | some [x,y]=>match argTypes.toList with
     | [t,_]=>match (T t).d with
       | .slice e=>some (x,y,(T e).size)
       | _=>none
     | _=>none
   | _=>none
 | _=>none
theorem over_cells {k : IntKind} {cs : List AV} {m o lo : Nat} (a : Arr m) (vs : List Int) (h : (cs.drop o).take m=cA k a) (hl : o+m≤cs.length) (hv : lo+vs.length≤m) : splice cs (o+lo) (vs.map (AV.int k))=cs.take o++(cA k (a.over lo vs)++cs.drop (o+m)):=by
 have hov : (a.over lo vs).l=a.l.take lo++(vs++a.l.drop (lo+vs.length)):=by
  unfold Arr.over
  rw [dif_pos hv]
 have e : cs=cs.take o++(cA k a++cs.drop (o+m)):=by
  rw [← h]
  conv=>lhs; rw [← List.take_append_drop o cs]
  congr 1
  conv=>lhs; rw [← List.take_append_drop m (cs.drop o)]
  rw [List.drop_drop]
 have ho : (cs.take o).length=o:=by rw [List.length_take]; omega
 have ha : (cA k a).length=m:=cA_len a
 unfold splice
 rw [List.length_map]
 have t1 : cs.take (o+lo)=cs.take o++(cA k a).take lo:=by
  conv=>lhs; rw [e]
  rw [List.take_append,List.take_of_length_le (by rw [ho]; omega),ho,Nat.add_sub_cancel_left,List.take_append]
  have : lo - (cA k a).length=0:=by omega
  rw [this,List.take_zero,List.append_nil]
 have t2 : cs.drop (o+lo+vs.length)=(cA k a).drop (lo+vs.length)++cs.drop (o+m):=by
  conv=>lhs; rw [e]
  rw [List.drop_append,List.drop_eq_nil_of_le (by rw [ho]; omega),ho,List.nil_append,List.drop_append]
  have : o+lo+vs.length - o=lo+vs.length:=by omega
  rw [this,ha]
  have : lo+vs.length - m=0:=by omega
  rw [this,List.drop_zero]
 rw [t1,t2,cA_map (a.over lo vs),hov,cA_map a]
 simp only [List.map_append,List.map_take,List.map_drop,List.append_assoc]
theorem w_acopy {l o m lo len : Nat} {ex : Bool} {s : List UInt8} (a : Arr m) (hp : lo+len≤m)
  (hk : evAt T G C A false K L (i+1) (aput fr (dstAt L i) (.int .i64 ((min s.length len : Nat) : Int))) (H.set l (.cells ((cellsOf H l).take o++(cA .u8 (a.over lo (intsS (s.take (min s.length len))))++(cellsOf H l).drop (o+m))))))
  (hc : ((cellsOf H l).drop o).take m=cA .u8 a:=by kernel_rfl) (h : seeCopy T G fr (opAt A L i fr)=some (.ref ex false l (o+lo) len 1,.str s,1):=by kernel_rfl) (hb : isCells H l=true:=by kernel_rfl) (hl : Nat.ble (o+m) (cellsOf H l).length=true:=by kernel_rfl) : evAt T G C A false K L i fr H:=by
 have hl:=Nat.le_of_ble_eq_true hl
 unfold seeCopy at h
 split at h
 ·rename_i args ts ho
  split at h
  ·rename_i x y hx
   split at h
   ·rename_i t u hts
    split at h
    ·rename_i e ht
     simp only [Option.some.injEq,Prod.mk.injEq] at h
     obtain ⟨rfl,rfl,hs⟩:=h
     refine w_op ho ?_ (fun e=>by cases e) hk
     simp only [aop,hx,Option.bind_some,hts,abuiltin,acopy,ht,hs]
     rw [if_pos ⟨rfl,rfl⟩]
     simp only [alen,acells,Nat.mul_one]
     have e1 : min (min s.length len) s.length=min s.length len:=by omega
     rw [if_pos (by omega)]
     simp only
     rw [if_pos trivial]
     unfold awrite
     rw [cells_of hb]
     simp only [List.length_map,List.length_take,e1]
     rw [if_pos (by omega)]
     simp only [Option.map_some]
     have e2 : (s.take (min s.length len)).map (fun b=>AV.int .u8 (b.toNat : Int))=(intsS (s.take (min s.length len))).map (AV.int .u8):=by unfold intsS; rw [List.map_map]; rfl
     rw [e2,over_cells a _ hc hl (by simp [intsS]; omega)]
    ·cases h
   ·cases h
  ·cases h
 ·cases h
def seeStrR (T : TT) (G : Nat→Option (List AV)) (fr : List AV) : Option Op→Option AV
 | some (.convert t u x)=>match (T t).d,(T u).d,aval G fr x with
   | .slice e,.str,some v=>match (T e).d with
     | .int .u8=>some v
     | _=>none
   | _,_,_=>none
 | _=>none
theorem w_astr {l o m lo len : Nat} {ex : Bool} (a : Arr m) (hp : lo+len≤m) (hk : evAt T G C A q K L (i+1) (aput fr (dstAt L i) (.str (bytesS ((a.l.drop lo).take len)))) H)
  (hc : ((cellsOf H l).drop o).take m=cA .u8 a:=by kernel_rfl) (h : seeStrR T G fr (opAt A L i fr)=some (.ref ex false l (o+lo) len 1):=by kernel_rfl) (hb : isCells H l=true:=by kernel_rfl) (hl : Nat.ble (o+m) (cellsOf H l).length=true:=by kernel_rfl) : evAt T G C A q K L i fr H:=by
 have hl:=Nat.le_of_ble_eq_true hl
 unfold seeStrR at h
 split at h
 ·rename_i t u x ho
  split at h
  ·rename_i e v h1 h2 h3
   split at h
   ·rename_i h4
    cases h
    refine w_op ho (v:=.str (bytesS ((a.l.drop lo).take len))) (H':=H) ?_ (fun _=>rfl) hk
    simp only [aop,h3,Option.bind_some,aconvert,h1,h2,AD.known,if_true,alen,acells,cells_of hb,Nat.mul_one]
    rw [h4]
    rw [if_pos (by omega)]
    have : ((cellsOf H l).drop (o+lo)).take len=((a.l.drop lo).take len).map (AV.int .u8):=by
     rw [List.map_take,List.map_drop,← cA_map,← hc,List.drop_take,List.take_take,List.drop_drop]
     congr 1
     omega
    rw [this]
    show Option.map (fun s=>(AV.str s,H)) (List.mapM byteOf? (List.map (AV.int .u8) _))=_
    rw [byte_cells]
    rfl
   ·cases h
  ·cases h
 ·cases h
theorem w_sliceO {α : Type} (c : α→List AV) {sz l0 ver : Nat} {s r : Sl α} {lo hi mx : Option Int} (hr : cutL s.weak lo hi mx=some r) (h : seeSlice T G fr (opAt A L i fr)=some (ownv c l0 ver sz s,lo,hi,mx,sz)) (hc : ∀ y,(c y).length=sz) (hm : mx.isSome=true→hi.isSome=true) (hk : evAt T G C A q K L (i+1) (aput fr (dstAt L i) (sl c r)) H) : evAt T G C A q K L i fr H:=by
 unfold seeSlice at h
 split at h
 ·rename_i t x l' h' m' ho
  split at h
  ·rename_i e v l1 h1 m1 g1 g2 g3 g4 g5
   simp only [Option.some.injEq,Prod.mk.injEq] at h
   obtain ⟨rfl,rfl,rfl,rfl,hs⟩:=h
   obtain ⟨k3,g3⟩:=seeBd_spec g3
   obtain ⟨k4,g4⟩:=seeBd_spec g4
   obtain ⟨k5,g5⟩:=seeBd_spec g5
   refine w_op ho (v:=sl c r) (H':=H) ?_ (fun _=>rfl) hk
   have hb : ∀ (v : Option Int) (k : IntKind) (d : Nat),boundOf (v.map (AV.int k ·)) d=boundI v d:=fun v k d=>by
    cases v with
    | none=>rfl
    | some n=>simp [boundOf,numOf,boundI]
   simp only [aop,g2,g3,g4,g5,ownv,aslice,g1,hb]
   unfold cutL Sl.weak at hr
   simp only at hr
   split at hr
   ·rename_i a b d h1 h2 h3
    rw [h1,h2,h3]
    split at hr
    ·rename_i hcc
     cases hr
     have hlen : (s.l.flatMap c).length=s.l.length * sz:=flat_len hc _
     have hle : b * sz≤s.l.length * sz:=Nat.mul_le_mul_right _ (by omega)
     simp only [Option.isSome_map,hs]
     rw [if_pos ⟨hcc.1,hcc.2.1,hcc.2.2,by rw [hlen]; exact hle,hm⟩,flat_take hc,flat_drop hc]
     simp only [Option.map_some,List.length_drop,List.length_take,sl]
     rw [Nat.min_eq_left (by omega)]
    ·cases hr
   ·cases hr
  ·cases h
 ·cases h
def mkL {α : Type} (bytes : Nat) (z : α) (n c : Int) : Option (Sl α):=if 0≤n∧n≤c∧c * bytes≤140737488355328∧c≤maxLen then some ⟨false,true,List.replicate n.toNat z⟩ else none
def seeMk (T : TT) (G : Nat→Option (List AV)) (fr : List AV) : Option Op→Option (TypeId×Int×Int×Nat×Nat)
 | some (.makeSlice t n c)=>match (T t).d,aval G fr n,aval G fr c with
   | .slice e,some (.int .i64 n),some (.int .i64 c)=>some (e,n,c,(T e).size,(T e).bytes)
   | _,_,_=>none
 | _=>none
theorem repl_flat2 {α : Type} (c : α→List AV) (z : α) : ∀ n,(List.replicate n (c z)).flatten=(List.replicate n z).flatMap c
 | 0=>rfl
 | n+1=>by simp [List.replicate_succ,repl_flat2 c z n]
theorem w_mkrow {α : Type} (c : α→List AV) {e : TypeId} {n k : Int} {sz bytes : Nat} {z : α} {y : Sl α} (hy : mkL bytes z n k=some y) (hk : ∀ ex,evAt T G C A false K L (i+1) (aput fr (dstAt L i) (rfv ex y H.length sz)) (H++[rfb c y])) (h : seeMk T G fr (opAt A L i fr)=some (e,n,k,sz,bytes):=by kernel_rfl) (hz : (T e).zero=c z:=by kernel_rfl) (h0 : 0 < sz:=by decide) : evAt T G C A false K L i fr H:=by
 unfold mkL at hy
 split at hy
 ·rename_i hcond
  cases hy
  unfold seeMk at h
  split at h
  ·rename_i t a b ho
   split at h
   ·rename_i e' n' c' g1 g2 g3
    simp only [Option.some.injEq,Prod.mk.injEq] at h
    obtain ⟨rfl,rfl,rfl,rfl,rfl⟩:=h
    refine w_op ho ?_ (fun e=>by cases e) (hk (n'==c'))
    simp only [aop,g2,g3,amake,g1]
    rw [if_pos ⟨hcond.1,hcond.2.1,hcond.2.2.1,hcond.2.2.2,h0⟩]
    simp only [rfv,rfb,Bool.false_and,Bool.false_eq_true,if_false,List.length_replicate,hz,repl_flat2]
   ·cases h
  ·cases h
 ·cases hy
theorem w_mkrs {α : Type} (c : α→List AV) {e : TypeId} {n k : Int} {sz bytes : Nat} {z : α} {y : Sl α} (hy : mkL bytes z n k=some y) (hk : ∀ ex,evAt T G C A false K L (i+1) (aput fr (dstAt L i) (.ref ex false H.length (0 * sz) n.toNat sz)) (H++[rfb c y])) (h : seeMk T G fr (opAt A L i fr)=some (e,n,k,sz,bytes):=by kernel_rfl) (hz : (T e).zero=c z:=by kernel_rfl) (h0 : 0 < sz:=by decide) : evAt T G C A false K L i fr H:=by
 refine w_mkrow c hy (fun ex=>?_) h hz h0
 have:=hk ex
 unfold mkL at hy
 split at hy
 ·cases hy
  rw [Nat.zero_mul] at this
  simpa [rfv] using this
 ·cases hy
theorem w_mkown {α : Type} (c : α→List AV) {e : TypeId} {n k : Int} {sz bytes : Nat} {z : α} {y : Sl α} (hy : mkL bytes z n k=some y) (hk : evAt T G C A false K L (i+1) (aput fr (dstAt L i) (ownv c H.length 1 sz y)) (H++[.room 1 true])) (h : seeMk T G fr (opAt A L i fr)=some (e,n,k,sz,bytes):=by kernel_rfl) (hz : (T e).zero=c z:=by kernel_rfl) (h0 : 0 < sz:=by decide) : evAt T G C A false K L i fr H:=by
 unfold mkL at hy
 split at hy
 ·rename_i hcond
  cases hy
  unfold seeMk at h
  split at h
  ·rename_i t a b ho
   split at h
   ·rename_i e' n' c' g1 g2 g3
    simp only [Option.some.injEq,Prod.mk.injEq] at h
    obtain ⟨rfl,rfl,rfl,rfl,rfl⟩:=h
    refine w_alt 0 ho ?_ (fun e=>by cases e) hk
    simp only [aalt,g2,g3,amakeF,g1]
    rw [if_pos ⟨hcond.1,hcond.2.1,hcond.2.2.1,hcond.2.2.2,h0⟩]
    simp only [ownv,List.length_replicate,hz,repl_flat2]
   ·cases h
  ·cases h
 ·cases hy
end
theorem sk {s : List Nat} {H : AH} {o : Nat} {os : List Nat} {xs bs : List AV} {bs2 : AH} (h : H[o]?=some (.cells xs)) (hr : ShH s H os bs2) (h1 : srens s xs=bs:=by kernel_rfl) (h2 : srefs s.length bs=true:=by kernel_rfl) (h3 : tights bs=true:=by kernel_rfl) : ShH s H (o::os) (.cells bs::bs2):=shh h (shb_cells h1 h2 h3) hr
theorem st {s : List Nat} {H : AH} {o : Nat} {os : List Nat} {xs bs : List AV} {bs2 : AH} (h3 : tights bs=true) (h : H[o]?=some (.cells xs)) (hr : ShH s H os bs2) (h1 : srens s xs=bs:=by kernel_rfl) (h2 : srefs s.length bs=true:=by kernel_rfl) : ShH s H (o::os) (.cells bs::bs2):=shh h (shb_cells h1 h2 h3) hr
theorem sr {s : List Nat} {H : AH} {o : Nat} {os : List Nat} {bs2 : AH} {α : Type} {c : α→List AV} (hc : ∀ x,lows 0 (c x)=true) {x : Sl α} (h : H[o]?=some (rfb c x)) (hr : ShH s H os bs2) : ShH s H (o::os) (rfb c x::bs2):=shh h (NoRef.shb (noref_rfb hc x)) hr
end Go.Abs
namespace Go.Abs
open Go.RowKit
def KpC (B : Nat) (W W' : World) : Prop:=W.heap.size≤W'.heap.size∧W'.os=W.os∧W'.tape=W.tape∧W'.output=W.output∧∀ k,B≤k→k < W.heap.size→W'.heap[k]?=W.heap[k]?
theorem KpC.refl (B : Nat) (W : World) : KpC B W W:=⟨Nat.le_refl _,rfl,rfl,rfl,fun _ _ _=>rfl⟩
theorem KpC.trans {B : Nat} {a b c : World} (h : KpC B a b) (k : KpC B b c) : KpC B a c :=
 ⟨Nat.le_trans h.1 k.1,k.2.1.trans h.2.1,k.2.2.1.trans h.2.2.1,k.2.2.2.1.trans h.2.2.2.1,fun i hB hi=>(k.2.2.2.2 i hB (Nat.lt_of_lt_of_le hi h.1)).trans (h.2.2.2.2 i hB hi)⟩
theorem KpC.mono {B C : Nat} {W W' : World} (h : KpC B W W') (hB : B≤C) : KpC C W W':=⟨h.1,h.2.1,h.2.2.1,h.2.2.2.1,fun i hC hi=>h.2.2.2.2 i (Nat.le_trans hB hC) hi⟩
theorem KpC.put {B l : Nat} {W : World} (o : Obj) (hl : l < B) : KpC B W (W.putObj l o):=⟨by simp,rfl,rfl,rfl,fun k hk _=>World.putObj_heap_other (by omega)⟩
theorem below_put {B l : Nat} {W : World} (o : Obj) (hl : B≤l) : Below B W (W.putObj l o):=⟨rfl,rfl,rfl,by simp,fun k hk=>World.putObj_heap_other (by omega)⟩
def OwnC {β : Type} (B : Nat) (I : β→World→Prop) : Prop:=∀ s W W',I s W→Below B W W'→I s W'
def SeqC {α : Type} (F : Fence) (n : Nat) (P : Program) (g : Nat) (lb : Array Value) (encs : α→Array Value) (xs : List α) (K : World→Prop) (w : World) : Prop :=
 ∀ (l : Nat) (J Jx : List α→World→Prop) (W : World),Below w.heap.size w W→OwnC W.heap.size J→OwnC W.heap.size Jx→(∀ s W1,J s W1→K W1) →
   (∀ pre x W1,J pre W1→pre++[x] <+: xs→YieldAt F (n - 1) P l (encs x) W1 fun e W' =>
    (e=.returned (.bool true)∧J (pre++[x]) W'∧KpC W.heap.size W1 W')∨(e=.returned (.bool false)∧Jx (pre++[x]) W')) →
   J [] W →
   CallsIn F n P g (#[.func (.yield l) #[] #[]]++lb) W fun e W'=>(∃ v,e=.returned v)∧(J xs W'∨∃ pre,pre <+: xs∧Jx pre W')
def postC {α : Type} (B : Nat) (I : List α→World→Prop) (Ix : Code→List α→World→Prop) (xs : List α) (W : World) : Exit→Act→World→Prop
 | .normal,_,W'=>KpC B W W'∧I xs W'
 | .ret,_,W'=>KpC B W W'∧Ix .ret xs W'
 | .exit id,_,W'=>KpC B W W'∧Ix (.exit id) xs W'
 | _,_,_=>False
theorem wpIn_rangeC {F : Fence} {n : Nat} {P : Program} {α : Type} {g : Operand} {ps : Array Tmp} {assign body : Code} {Q : Exit→Act→World→Prop} {a : Act} {w : World}
  (hro : F.round=none) (h1 : 1≤n) {gf : Nat} {lb : Array Value} (hg : a.eval g=.func (.func gf) #[] lb) (hFg : F.fn gf) (eg : ∀ args w,(callFunc gf args).run P w=.ok (.enter gf args) w)
  {encs : α→Array Value} {xs : List α} {w0 : World} {K : World→Prop} (hseq : SeqC F (n - 1) P gf lb encs xs K w0) (hb0 : Below w0.heap.size w0 w) (hps : ∀ x,(encs x).size=ps.size)
  (I : List α→World→Prop) (Ix : Code→List α→World→Prop) (hI : OwnC w.heap.size I) (hIK : ∀ s W,I s W→K W) (hIx : ∀ c,OwnC w.heap.size (Ix c)) (h0 : I [] w) (a₁ : α→Act)
  (hassign : ∀ (l : Nat) (x : α) (W : World) (K : Act→World→Prop),K (a₁ x) W →
   assign.wpIn (F.inRound l) (n - 1 - 1) P (Exit.then K (fun _ _ _=>False)) { tmps:=(ps.zip (encs x)).foldl (fun t (p,v)=>t.setIfInBounds p v) a.tmps,defers:=[] } W)
  (hbody : ∀ (l : Nat) (pre : List α) (x : α) (W : World),I pre W→pre++[x] <+: xs→body.wpIn (F.inRound l) (n - 1 - 1) P (postC w.heap.size I Ix (pre++[x]) W) (a₁ x) W)
  (hdone : ∀ (D : Nat) (W : World),w.heap.size≤D→I xs W→W.heap[D]?=some (.deferred (some []))→Q .normal { a with defers:={ target:=.collected D,args:=#[] }::a.defers } W)
  (hstop : ∀ (D : Nat) (c : Code) (pre : List α) (W : World),w.heap.size≤D→pre <+: xs→Ix c pre W→W.heap[D]?=some (.deferred (some []))→c.wpIn F n P Q { a with defers:={ target:=.collected D,args:=#[] }::a.defers } W) :
  (Code.rangeFunc g ps assign body).wpIn F n P Q a w:=by
 refine wpIn_rangeFunc ?_
 intro fn hfn
 rw [hro]
 obtain ⟨rec,hrec⟩ : ∃ rec : LoopState→Option Code→Go.Loop,rec=fun st pe=>{ state:=st,pending:=pe,fn,tmps:=a.tmps,params:=ps,assign,body,defers:=w.heap.size }:=⟨_,rfl⟩
 obtain ⟨W1,hW1⟩ : ∃ W1,(w.alloc (.deferred (some []))).alloc (.loop (rec .ready none))=W1:=⟨_,rfl⟩
 have hs1 : W1.heap.size=w.heap.size+2:=by rw [← hW1]; simp
 have hL1 : W1.heap[w.heap.size+1]?=some (.loop (rec .ready none)):=by
  rw [← hW1]; have:=World.alloc_heap_new (w.alloc (.deferred (some []))) (.loop (rec .ready none)); rwa [World.size_alloc] at this
 have hK1 : W1.heap[w.heap.size]?=some (.deferred (some [])):=by
  rw [← hW1]; exact (Below.heap_alloc _ _ _ (by simp)).trans (World.alloc_heap_new w _)
 have hw1 : Below w.heap.size w W1:=by rw [← hW1]; exact ((Below.refl _ w).alloc (Nat.le_refl _) _).alloc (by simp) _
 have hI1 : I [] W1:=hI _ _ _ h0 hw1
 refine ⟨w.heap.size+1,[{ target:=.collected w.heap.size,args:=#[] }],W1,{ target:=.fn (.func gf) lb,args:=#[.func (.yield (w.heap.size+1)) #[] #[]] },W1,gf,
  #[.func (.yield (w.heap.size+1)) #[] #[]]++lb,W1,?_,?_,?_,?_,fun _=>h1,?_⟩
 ·rw [← hW1,hrec]; exact run_enterLoop_outer _ _ _ _ _
 ·simp only [resolve,hg]
  simp [go_sem]
 ·intro f' hf'; simp [Target.leads] at hf'; subst hf'; exact hFg
 ·simp [invoke,go_sem,eg]
 ·have rec_kept : ∀ {A B : World} {o : Obj} {k : Nat},k < W1.heap.size→Below W1.heap.size A B→A.heap[k]?=some o→B.heap[k]?=some o:=fun hk hb h=>(hb.block _ hk).trans h
  refine (hseq (w.heap.size+1)
   (fun pre W=>I pre W∧W.heap[w.heap.size+1]?=some (.loop (rec .ready none))∧W.heap[w.heap.size]?=some (.deferred (some [])))
   (fun pre W=>∃ c,Ix c pre W∧W.heap[w.heap.size+1]?=some (.loop (rec .done (some c)))∧W.heap[w.heap.size]?=some (.deferred (some [])))
   W1 (hb0.trans (hw1.mono hb0.size))
   (fun s A B hs hb=>⟨hI s A B hs.1 (hb.mono (by omega)),rec_kept (by omega) hb hs.2.1,rec_kept (by omega) hb hs.2.2⟩)
   (fun s A B hs hb=>by
    obtain ⟨c,hc,hl,hk⟩:=hs
    exact ⟨c,hIx c s A B hc (hb.mono (by omega)),rec_kept (by omega) hb hl,rec_kept (by omega) hb hk⟩)
   (fun s A hs=>hIK s A hs.1) ?_ ⟨hI1,hL1,hK1⟩).mono ?_
  ·rintro pre x W ⟨hi,hl,hk⟩ hpx
   have hlt : w.heap.size+1 < W.heap.size:=(Array.getElem?_eq_some_iff.1 hl).1
   have hy:=run_yield (P:=P) (args:=encs x) hl (by rw [hrec]; simp [hps])
   rw [hrec] at hy
   refine ⟨fn,_,assign,body,hy,roundIn_of_wpIn hfn (hassign _ x W _ ⟨_,run_beginRound hl (by rw [hrec]),?_⟩)⟩
   have hl2 : (W.putObj (w.heap.size+1) (.loop { rec .ready none with state:=.busy })).heap[w.heap.size+1]?=some (.loop { rec .ready none with state:=.busy }):=World.putObj_heap_same hlt
   have hk2 : (W.putObj (w.heap.size+1) (.loop { rec .ready none with state:=.busy })).heap[w.heap.size]?=some (.deferred (some [])):=(World.putObj_heap_other (by omega)).trans hk
   have hw2 : KpC W1.heap.size W (W.putObj (w.heap.size+1) (.loop { rec .ready none with state:=.busy })):=KpC.put _ (by omega)
   refine wpIn_mono (hbody _ pre x _ (hI _ _ _ hi (below_put _ (by omega))) hpx) ?_
   have fin : ∀ (jump : Option Code) (W3 : World),KpC w.heap.size (W.putObj (w.heap.size+1) (.loop { rec .ready none with state:=.busy })) W3 →
     (Instr.endRound (w.heap.size+1) jump).run P W3=.ok (.bool jump.isNone) (W3.putObj (w.heap.size+1) (.loop (rec (if jump.isNone then .ready else .done) jump))) ∧
     (W3.putObj (w.heap.size+1) (.loop (rec (if jump.isNone then .ready else .done) jump))).heap[w.heap.size+1]?=some (.loop (rec (if jump.isNone then .ready else .done) jump)) ∧
     (W3.putObj (w.heap.size+1) (.loop (rec (if jump.isNone then .ready else .done) jump))).heap[w.heap.size]?=some (.deferred (some [])):=fun jump W3 hk3=>by
    have hl3:=(hk3.2.2.2.2 _ (by omega) (by simp; omega)).trans hl2
    have:=run_endRound (P:=P) jump hl3
    rw [hrec] at this ⊢
    exact ⟨this,World.putObj_heap_same (Array.getElem?_eq_some_iff.1 hl3).1,(World.putObj_heap_other (by omega)).trans ((hk3.2.2.2.2 _ (Nat.le_refl _) (by simp; omega)).trans hk2)⟩
   rintro e a3 W3 hp
   cases e with
   | normal =>
     obtain ⟨hk3,hi3⟩:=hp
     obtain ⟨hr,hl4,hk4⟩:=fin none W3 hk3
     exact ⟨_,_,hr,.inl ⟨rfl,⟨hI _ _ _ hi3 (below_put _ (by omega)),hl4,hk4⟩,(hw2.trans (hk3.mono (by omega))).trans (KpC.put _ (by omega))⟩⟩
   | ret =>
     obtain ⟨hk3,hi3⟩:=hp
     obtain ⟨hr,hl4,hk4⟩:=fin (some .ret) W3 hk3
     exact ⟨_,_,hr,.inr ⟨rfl,.ret,hIx _ _ _ _ hi3 (below_put _ (by omega)),hl4,hk4⟩⟩
   | exit id =>
     obtain ⟨hk3,hi3⟩:=hp
     obtain ⟨hr,hl4,hk4⟩:=fin (some (.exit id)) W3 hk3
     exact ⟨_,_,hr,.inr ⟨rfl,.exit id,hIx _ _ _ _ hi3 (below_put _ (by omega)),hl4,hk4⟩⟩
   | goto t=>exact hp.elim
   | panic ch=>exact hp.elim
   | outgrown=>exact hp.elim
  ·rintro e W2 ⟨⟨v,rfl⟩,(⟨hi,hl,hk⟩|⟨pre,hSp,c,hi,hl,hk⟩)⟩
   ·exact ⟨none,_,by have:=run_endLoop (P:=P) hl (by rw [hrec]; simp); rw [hrec] at this; exact this,hdone _ _ (Nat.le_refl _) (hI _ _ _ hi (below_put _ (by omega))) ((World.putObj_heap_other (by omega)).trans hk)⟩
   ·exact ⟨some c,_,by have:=run_endLoop (P:=P) hl (by rw [hrec]; simp); rw [hrec] at this; exact this,hstop _ c pre _ (Nat.le_refl _) hSp (hIx c _ _ _ hi (below_put _ (by omega))) ((World.putObj_heap_other (by omega)).trans hk)⟩
theorem EvCall.of_calls {P : Program} {T : TT} {G : Nat→Option (List AV)} {f : FuncId} {args : List AV} {v : AV} (hfn : ∃ fn c,P.funcs[f]?=some fn∧fn.body=some c∧(fn.name == "runtime.NumGoroutine")=false)
  (h : ∀ (x : Cx) (vs : List Value),RL x args vs→∃ u,(∀ y,R y v u)∧Calls P f vs.toArray x.w fun e w'=>e=.returned u∧Below x.w.heap.size x.w w') : EvCall P T G f args [] (fun r H'=>r=v∧H'=[]):=by
 refine ⟨⟨_,_,rfl,rfl⟩,fun hT=>⟨hfn,fun x vs hr hl hG=>?_⟩⟩
 obtain ⟨u,hu,hc⟩:=h x vs hl
 refine hc.mono ?_
 rintro e w' ⟨rfl,hb⟩
 let y : Cx:={ x with w:=w' }
 have hN : x.N=0:=hr.N
 refine ⟨u,v,[],y,rfl,⟨rfl,rfl⟩,rfl,?_,?_,hu y⟩
 ·refine ⟨fun _ _ _=>⟨rfl,rfl⟩,fun _ _=>⟨Nat.le_refl _,id⟩,Nat.le_refl _,Nat.le_refl _,fun _ _ h=>h,?_,?_,hb.size,hb.os,hb.tape,hb.output,?_,?_,fun _ _ h=>.inl h⟩
  ·intro k m hF i _
   have:=hb.block k (hr.Flt k m hF)
   exact World.cell?_of_block this
  ·intro k s hs
   unfold bsz at hs ⊢
   by_cases hk : k < x.w.heap.size
   ·show (match w'.heap[k]? with|_=>_)=_
    rw [hb.block k hk]
    exact hs
   ·rw [Array.getElem?_eq_none (by omega)] at hs
    cases hs
  ·intro k hk _
   exact hb.block k hk
  ·rintro k ⟨l,⟨b,hb',_⟩,_⟩
   simp at hb'
 ·exact ⟨hN,fun l b h=>by simp at h,fun l m ⟨b,hb',_⟩=>by simp at hb',fun l b hb'=>by simp at hb',fun k m h=>Nat.lt_of_lt_of_le (hr.Flt k m h) hb.size⟩
end Go.Abs
namespace Go.Abs
inductive Tr (α : Type) where
 | lf
 | nd (l : Tr α) (v : α) (r : Tr α)
theorem ble_t {i j : Nat} (h : i≤j) : Nat.ble i j=true:=Nat.ble_eq_true_of_le h
theorem ble_f {i j : Nat} (h : ¬ i≤j) : Nat.ble i j=false:=by
 cases e : Nat.ble i j with
 | false=>rfl
 | true=>exact absurd (Nat.le_of_ble_eq_true e) h
theorem beq_t {i j : Nat} (h : i=j) : Nat.beq i j=true:=by subst h; exact Nat.beq_refl i
theorem beq_f {i j : Nat} (h : i≠j) : Nat.beq i j=false:=by
 cases e : Nat.beq i j with
 | false=>rfl
 | true=>exact absurd (Nat.eq_of_beq_eq_true e) h
section
variable {α : Type}
def Tr.getO : Tr α→Nat→Option α
 | .lf,_=>none
 | .nd l v r,i=>if i≤1 then some v else if i % 2=0 then l.getO (i / 2) else r.getO (i / 2)
noncomputable def bsel {β : Type} (b : Bool) (x y : β) : β:=Bool.rec (motive:=fun _=>β) y x b
theorem bsel_eq {β : Type} {b : Bool} {x y : β} : bsel b x y=bif b then x else y:=by cases b<;>rfl
noncomputable def Tr.get (d : α) (t : Tr α) : Nat→α :=
 Tr.rec (motive:=fun _=>Nat→α) (fun _=>d) (fun _ v _ gl gr i=>Bool.rec (motive:=fun _=>α) (Bool.rec (motive:=fun _=>α) (gr (Nat.div i 2)) (gl (Nat.div i 2)) (Nat.beq (Nat.mod i 2) 0)) v (Nat.ble i 1)) t
noncomputable def Tr.strict {β : Type} (t : Tr α) (k : Tr α→β) : β:=Tr.rec (motive:=fun _=>β) (k .lf) (fun a b c _ _=>k (.nd a b c)) t
theorem Tr.strict_eq {β : Type} (t : Tr α) (k : Tr α→β) : t.strict k=k t:=by cases t<;>rfl
noncomputable def Tr.set (x : α) (t : Tr α) : Nat→Tr α :=
 Tr.rec (motive:=fun _=>Nat→Tr α) (fun _=>.lf) (fun l v r sl sr i=>Bool.rec (motive:=fun _=>Tr α) (Bool.rec (motive:=fun _=>Tr α) (Tr.strict (sr (Nat.div i 2)) fun r'=>.nd l v r') (Tr.strict (sl (Nat.div i 2)) fun l'=>.nd l' v r) (Nat.beq (Nat.mod i 2) 0)) (.nd l x r) (Nat.ble i 1)) t
noncomputable def Tr.push (x : α) (t : Tr α) : Nat→Tr α :=
 Tr.rec (motive:=fun _=>Nat→Tr α) (fun _=>.nd .lf x .lf) (fun l v r sl sr i=>Bool.rec (motive:=fun _=>Tr α) (Bool.rec (motive:=fun _=>Tr α) (Tr.strict (sr (Nat.div i 2)) fun r'=>.nd l v r') (Tr.strict (sl (Nat.div i 2)) fun l'=>.nd l' v r) (Nat.beq (Nat.mod i 2) 0)) (.nd l x r) (Nat.ble i 1)) t
theorem Tr.get_nd (d : α) (l : Tr α) (v : α) (r : Tr α) (i : Nat) : Tr.get d (.nd l v r) i=bif Nat.ble i 1 then v else bif Nat.beq (i % 2) 0 then l.get d (i / 2) else r.get d (i / 2):=by
 show Bool.rec (motive:=fun _=>α) (Bool.rec (motive:=fun _=>α) (r.get d (i / 2)) (l.get d (i / 2)) (Nat.beq (i % 2) 0)) v (Nat.ble i 1)=_
 cases Nat.ble i 1<;>cases Nat.beq (i % 2) 0<;>rfl
theorem Tr.set_nd (x : α) (l : Tr α) (v : α) (r : Tr α) (i : Nat) : Tr.set x (.nd l v r) i=bif Nat.ble i 1 then .nd l x r else bif Nat.beq (i % 2) 0 then .nd (l.set x (i / 2)) v r else .nd l v (r.set x (i / 2)):=by
 show Bool.rec (motive:=fun _=>Tr α) (Bool.rec (motive:=fun _=>Tr α) (Tr.strict (r.set x (i / 2)) fun r'=>.nd l v r') (Tr.strict (l.set x (i / 2)) fun l'=>.nd l' v r) (Nat.beq (i % 2) 0)) (.nd l x r) (Nat.ble i 1)=_
 rw [Tr.strict_eq,Tr.strict_eq]
 cases Nat.ble i 1<;>cases Nat.beq (i % 2) 0<;>rfl
theorem Tr.push_nd (x : α) (l : Tr α) (v : α) (r : Tr α) (i : Nat) : Tr.push x (.nd l v r) i=bif Nat.ble i 1 then .nd l x r else bif Nat.beq (i % 2) 0 then .nd (l.push x (i / 2)) v r else .nd l v (r.push x (i / 2)):=by
 show Bool.rec (motive:=fun _=>Tr α) (Bool.rec (motive:=fun _=>Tr α) (Tr.strict (r.push x (i / 2)) fun r'=>.nd l v r') (Tr.strict (l.push x (i / 2)) fun l'=>.nd l' v r) (Nat.beq (i % 2) 0)) (.nd l x r) (Nat.ble i 1)=_
 rw [Tr.strict_eq,Tr.strict_eq]
 cases Nat.ble i 1<;>cases Nat.beq (i % 2) 0<;>rfl
theorem Tr.get_eq (d : α) : ∀ (t : Tr α) (i : Nat),t.get d i=(t.getO i).getD d
 | .lf,i=>rfl
 | .nd l v r,i=>by
   rw [Tr.get_nd,Tr.getO]
   by_cases h : i≤1
   ·rw [if_pos h,ble_t h]; rfl
   ·rw [if_neg h,ble_f h]
    by_cases h2 : i % 2=0
    ·rw [if_pos h2,h2]; exact Tr.get_eq d l _
    ·rw [if_neg h2,beq_f h2]; exact Tr.get_eq d r _
theorem Tr.getO_set (x : α) : ∀ (t : Tr α) (i j : Nat),1≤i→1≤j→(t.set x i).getO j=if j=i then (t.getO i).map (fun _=>x) else t.getO j
 | .lf,i,j,_,_=>by
   show Tr.getO .lf j=_
   by_cases h : j=i<;>simp [h,Tr.getO]
 | .nd l v r,i,j,hi,hj=>by
   rw [Tr.set_nd]
   by_cases h : i≤1
   ·have h0 : i=1:=by omega
    subst h0
    rw [ble_t h]
    simp only [cond_true,Tr.getO]
    by_cases hj1 : j≤1
    ·have : j=1:=by omega
     subst this
     simp
    ·rw [if_neg hj1,if_neg hj1,if_neg (show ¬ j=1 by omega)]
   ·rw [ble_f h]
    have hi2 : 1≤i / 2:=by omega
    by_cases h2 : i % 2=0
    ·rw [h2]
     simp only [cond_false,Nat.beq,cond_true,Tr.getO]
     rw [if_neg h,if_pos h2]
     by_cases hj1 : j≤1
     ·rw [if_pos hj1,if_pos hj1,if_neg (by omega)]
     ·rw [if_neg hj1,if_neg hj1]
      by_cases hj2 : j % 2=0
      ·rw [if_pos hj2,if_pos hj2,Tr.getO_set x l _ _ hi2 (by omega)]
       by_cases e : j=i
       ·subst e; simp
       ·rw [if_neg e,if_neg (fun e'=>e (by omega))]
      ·rw [if_neg hj2,if_neg hj2,if_neg (fun e=>hj2 (by omega))]
    ·rw [beq_f h2]
     simp only [cond_false,Tr.getO]
     rw [if_neg h,if_neg h2]
     by_cases hj1 : j≤1
     ·rw [if_pos hj1,if_pos hj1,if_neg (by omega)]
     ·rw [if_neg hj1,if_neg hj1]
      by_cases hj2 : j % 2=0
      ·rw [if_pos hj2,if_pos hj2,if_neg (fun e=>h2 (by omega))]
      ·rw [if_neg hj2,if_neg hj2,Tr.getO_set x r _ _ hi2 (by omega)]
       by_cases e : j=i
       ·subst e; simp
       ·rw [if_neg e,if_neg (fun e'=>e (by omega))]
theorem Tr.getO_push (x : α) : ∀ (t : Tr α) (i j : Nat),1≤i→1≤j→(∀ k,1≤k→k < i→(t.getO k).isSome=true)→(t.push x i).getO j=if j=i then some x else t.getO j
 | .lf,i,j,hi,hj,hd=>by
   have h0 : i=1:=by
    rcases Nat.lt_or_ge 1 i with h|h
    ·have:=hd 1 (Nat.le_refl _) h
     simp [Tr.getO] at this
    ·omega
   subst h0
   show Tr.getO (.nd .lf x .lf) j=_
   simp only [Tr.getO]
   by_cases hj1 : j≤1
   ·rw [if_pos hj1,if_pos (by omega)]
   ·rw [if_neg hj1,if_neg (show ¬ j=1 by omega)]
    simp
 | .nd l v r,i,j,hi,hj,hd=>by
   rw [Tr.push_nd]
   by_cases h : i≤1
   ·have h0 : i=1:=by omega
    subst h0
    rw [ble_t h]
    simp only [cond_true,Tr.getO]
    by_cases hj1 : j≤1
    ·rw [if_pos hj1,if_pos (by omega)]
    ·rw [if_neg hj1,if_neg hj1,if_neg (show ¬ j=1 by omega)]
   ·rw [ble_f h]
    have hi2 : 1≤i / 2:=by omega
    by_cases h2 : i % 2=0
    ·rw [h2]
     simp only [cond_false,Nat.beq,cond_true,Tr.getO]
     by_cases hj1 : j≤1
     ·rw [if_pos hj1,if_pos hj1,if_neg (by omega)]
     ·rw [if_neg hj1,if_neg hj1]
      by_cases hj2 : j % 2=0
      ·rw [if_pos hj2,if_pos hj2,Tr.getO_push x l _ _ hi2 (by omega) (fun k h1 hk=>by
        have:=hd (2 * k) (by omega) (by omega)
        rw [Tr.getO,if_neg (by omega),if_pos (by omega),show 2 * k / 2=k by omega] at this
        exact this)]
       by_cases e : j=i
       ·subst e; simp
       ·rw [if_neg e,if_neg (fun e'=>e (by omega))]
      ·rw [if_neg hj2,if_neg hj2,if_neg (fun e=>hj2 (by omega))]
    ·rw [beq_f h2]
     simp only [cond_false,Tr.getO]
     by_cases hj1 : j≤1
     ·rw [if_pos hj1,if_pos hj1,if_neg (by omega)]
     ·rw [if_neg hj1,if_neg hj1]
      by_cases hj2 : j % 2=0
      ·rw [if_pos hj2,if_pos hj2,if_neg (fun e=>h2 (by omega))]
      ·rw [if_neg hj2,if_neg hj2,Tr.getO_push x r _ _ hi2 (by omega) (fun k h1 hk=>by
        have:=hd (2 * k+1) (by omega) (by omega)
        rw [Tr.getO,if_neg (by omega),if_neg (by omega),show (2 * k+1) / 2=k by omega] at this
        exact this)]
       by_cases e : j=i
       ·subst e; simp
       ·rw [if_neg e,if_neg (fun e'=>e (by omega))]
noncomputable def Tr.many (d : α) (f : Nat) : Nat→Tr α :=
 Nat.rec (motive:=fun _=>Nat→Tr α) (fun _=>.lf) (fun _ ih n=>Bool.rec (motive:=fun _=>Tr α) (.nd (ih (Nat.div n 2)) d (ih (Nat.div (Nat.pred n) 2))) .lf (Nat.beq n 0)) f
theorem Tr.getO_many (d : α) : ∀ (f n i : Nat),n < 2 ^ f→1≤i→(Tr.many d f n).getO i=if i≤n then some d else none
 | 0,n,i,h,hi=>by
   have : n=0:=by omega
   subst this
   show Tr.getO .lf i=_
   rw [if_neg (by omega)]
   rfl
 | f+1,n,i,h,hi=>by
   show Tr.getO (Bool.rec (motive:=fun _=>Tr α) (.nd (Tr.many d f (n / 2)) d (Tr.many d f ((n - 1) / 2))) .lf (Nat.beq n 0)) i=_
   by_cases h0 : n=0
   ·subst h0
    rw [if_neg (by omega)]
    rfl
   ·rw [beq_f h0]
    simp only [Tr.getO]
    by_cases hi1 : i≤1
    ·rw [if_pos hi1,if_pos (by omega)]
    ·rw [if_neg hi1]
     by_cases h2 : i % 2=0
     ·rw [if_pos h2,Tr.getO_many d f _ _ (by omega) (by omega)]
      by_cases e : i≤n
      ·rw [if_pos e,if_pos (by omega)]
      ·rw [if_neg e,if_neg (by omega)]
     ·rw [if_neg h2,Tr.getO_many d f _ _ (by omega) (by omega)]
      by_cases e : i≤n
      ·rw [if_pos e,if_pos (by omega)]
      ·rw [if_neg e,if_neg (by omega)]
def Like (t : Tr α) (l : List α) : Prop:=∀ i,t.getO (i+1)=l[i]?
theorem Like.get {t : Tr α} {l : List α} (h : Like t l) (d : α) (i : Nat) : t.get d (Nat.succ i)=l.getD i d:=by
 rw [Tr.get_eq,show Nat.succ i=i+1 from rfl,h,List.getD_eq_getElem?_getD]
theorem Like.set {t : Tr α} {l : List α} (h : Like t l) (i : Nat) (x : α) : Like (t.set x (Nat.succ i)) (l.set i x):=by
 intro j
 rw [show Nat.succ i=i+1 from rfl,Tr.getO_set x t _ _ (by omega) (by omega),h,h]
 by_cases e : j=i
 ·subst e
  rw [if_pos rfl,List.getElem?_set]
  by_cases hl : j < l.length
  ·simp [hl]
  ·simp [hl]
 ·rw [if_neg (by omega),List.getElem?_set_ne (fun e'=>e e'.symm)]
theorem Like.push {t : Tr α} {l : List α} (h : Like t l) (x : α) : Like (t.push x (Nat.succ l.length)) (l++[x]):=by
 intro j
 rw [show Nat.succ l.length=l.length+1 from rfl,Tr.getO_push x t _ _ (by omega) (by omega) (fun k h1 hk=>by
  obtain ⟨k,rfl⟩ : ∃ m,k=m+1:=⟨k - 1,by omega⟩
  rw [h,List.getElem?_eq_getElem (by omega)]
  rfl)]
 by_cases e : j=l.length
 ·subst e
  simp
 ·rw [if_neg (by omega),h]
  rcases Nat.lt_or_ge j l.length with hl|hl
  ·rw [List.getElem?_append_left hl]
  ·rw [List.getElem?_eq_none hl,List.getElem?_eq_none (by simp; omega)]
theorem Like.many (d : α) (f n : Nat) (h : n < 2 ^ f) : Like (Tr.many d f n) (List.replicate n d):=by
 intro i
 rw [Tr.getO_many d f n _ h (by omega),List.getElem?_replicate]
 by_cases e : i < n
 ·rw [if_pos (by omega),if_pos e]
 ·rw [if_neg (by omega),if_neg e]
noncomputable def Tr.puts (l : List α) : Nat→Tr α→Tr α:=List.rec (motive:=fun _=>Nat→Tr α→Tr α) (fun _ t=>t) (fun a _ ih i t=>ih (Nat.succ i) (t.set a i)) l
theorem Like.puts (ys : List α) : ∀ (l : List α) (pre : List α) (t : Tr α),l.length≤ys.length→Like t (pre++ys)→Like (Tr.puts l (Nat.succ pre.length) t) (pre++l++ys.drop l.length)
 | [],pre,t,_,h=>by simpa [Tr.puts] using h
 | a::l,pre,t,hl,h=>by
   cases ys with
   | nil=>simp at hl
   | cons y ys =>
     show Like (Tr.puts l (Nat.succ (Nat.succ pre.length)) (t.set a (Nat.succ pre.length))) _
     have h1:=h.set pre.length a
     have e : (pre++y::ys).set pre.length a=(pre++[a])++ys:=by
      rw [List.set_append]
      simp
     rw [e] at h1
     have:=Like.puts ys l (pre++[a]) _ (by simpa using hl) h1
     simpa using this
noncomputable def Tr.ofList (l : List α) : Nat→Tr α→Tr α:=List.rec (motive:=fun _=>Nat→Tr α→Tr α) (fun _ t=>t) (fun a _ ih i t=>ih (Nat.succ i) (t.push a (Nat.succ i))) l
theorem Like.ofList : ∀ (l pre : List α) (t : Tr α),Like t pre→Like (Tr.ofList l pre.length t) (pre++l)
 | [],pre,t,h=>by simpa [Tr.ofList] using h
 | a::l,pre,t,h=>by
   show Like (Tr.ofList l (Nat.succ pre.length) (t.push a (Nat.succ pre.length))) _
   have:=Like.ofList l (pre++[a]) _ (h.push a)
   simpa using this
theorem Like.nil : Like (.lf : Tr α) []:=fun _=>rfl
end
end Go.Abs
namespace Go.Abs
inductive Pth where
 | e
 | l (p : Pth)
 | r (p : Pth)
noncomputable def pthF (f : Nat) : Nat→Pth:=Nat.rec (motive:=fun _=>Nat→Pth) (fun _=>.e) (fun _ ih i=>Bool.rec (motive:=fun _=>Pth) (Bool.rec (motive:=fun _=>Pth) (.r (ih (Nat.div i 2))) (.l (ih (Nat.div i 2))) (Nat.beq (Nat.mod i 2) 0)) .e (Nat.ble i 1)) f
noncomputable def pth (i : Nat) : Pth:=pthF i i
theorem pthF_succ (f i : Nat) : pthF (f+1) i=bif Nat.ble i 1 then .e else bif Nat.beq (i % 2) 0 then .l (pthF f (i / 2)) else .r (pthF f (i / 2)):=by
 show Bool.rec (motive:=fun _=>Pth) (Bool.rec (motive:=fun _=>Pth) (.r (pthF f (i / 2))) (.l (pthF f (i / 2))) (Nat.beq (i % 2) 0)) .e (Nat.ble i 1)=_
 cases Nat.ble i 1<;>cases Nat.beq (i % 2) 0<;>rfl
noncomputable def gVE (t : Tr AV) : AV:=Tr.rec (motive:=fun _=>AV) (.tup []) (fun _ v _ _ _=>v) t
noncomputable def gVL (_ : Pth) (ih : Tr AV→AV) (t : Tr AV) : AV:=Tr.rec (motive:=fun _=>(Tr AV→AV)→AV) (fun _=>(.tup [])) (fun l _ _ _ _ ih=>ih l) t ih
noncomputable def gVR (_ : Pth) (ih : Tr AV→AV) (t : Tr AV) : AV:=Tr.rec (motive:=fun _=>(Tr AV→AV)→AV) (fun _=>(.tup [])) (fun _ _ r _ _ ih=>ih r) t ih
noncomputable def getV (p : Pth) (t : Tr AV) : AV:=Pth.rec (motive:=fun _=>Tr AV→AV) gVE gVL gVR p t
noncomputable def stVL (t : Tr AV) (v : AV) (r : Tr AV) : Tr AV:=Tr.rec (motive:=fun _=>AV→Tr AV→Tr AV) (fun v r=>.nd .lf v r) (fun a b c _ _ v r=>.nd (.nd a b c) v r) t v r
noncomputable def stVR (t : Tr AV) (l : Tr AV) (v : AV) : Tr AV:=Tr.rec (motive:=fun _=>Tr AV→AV→Tr AV) (fun l v=>.nd l v .lf) (fun a b c _ _ l v=>.nd l v (.nd a b c)) t l v
noncomputable def sVE (x : AV) (t : Tr AV) : Tr AV:=Tr.rec (motive:=fun _=>AV→Tr AV) (fun _=>.lf) (fun l _ r _ _ x=>.nd l x r) t x
noncomputable def sVL (_ : Pth) (ih : AV→Tr AV→Tr AV) (x : AV) (t : Tr AV) : Tr AV:=Tr.rec (motive:=fun _=>(AV→Tr AV→Tr AV)→AV→Tr AV) (fun _ _=>.lf) (fun l v r _ _ ih x=>stVL (ih x l) v r) t ih x
noncomputable def sVR (_ : Pth) (ih : AV→Tr AV→Tr AV) (x : AV) (t : Tr AV) : Tr AV:=Tr.rec (motive:=fun _=>(AV→Tr AV→Tr AV)→AV→Tr AV) (fun _ _=>.lf) (fun l v r _ _ ih x=>stVR (ih x r) l v) t ih x
noncomputable def setV (p : Pth) (x : AV) (t : Tr AV) : Tr AV:=Pth.rec (motive:=fun _=>AV→Tr AV→Tr AV) sVE sVL sVR p x t
noncomputable def pVE (x : AV) (t : Tr AV) : Tr AV:=Tr.rec (motive:=fun _=>AV→Tr AV) (fun x=>.nd .lf x .lf) (fun l _ r _ _ x=>.nd l x r) t x
noncomputable def pVL (_ : Pth) (ih : AV→Tr AV→Tr AV) (x : AV) (t : Tr AV) : Tr AV:=Tr.rec (motive:=fun _=>(AV→Tr AV→Tr AV)→AV→Tr AV) (fun _ x=>.nd .lf x .lf) (fun l v r _ _ ih x=>stVL (ih x l) v r) t ih x
noncomputable def pVR (_ : Pth) (ih : AV→Tr AV→Tr AV) (x : AV) (t : Tr AV) : Tr AV:=Tr.rec (motive:=fun _=>(AV→Tr AV→Tr AV)→AV→Tr AV) (fun _ x=>.nd .lf x .lf) (fun l v r _ _ ih x=>stVR (ih x r) l v) t ih x
noncomputable def pushV (p : Pth) (x : AV) (t : Tr AV) : Tr AV:=Pth.rec (motive:=fun _=>AV→Tr AV→Tr AV) pVE pVL pVR p x t
theorem stVL_eq (t : Tr AV) (v : AV) (r : Tr AV) : stVL t v r=.nd t v r:=by cases t<;>rfl
theorem stVR_eq (t : Tr AV) (l : Tr AV) (v : AV) : stVR t l v=.nd l v t:=by cases t<;>rfl
theorem getV_eq : ∀ (f i : Nat) (t : Tr AV),i < 2 ^ (f+1)→getV (pthF f i) t=t.get (.tup []) i
 | 0,i,t,h=>by
   have hi : i≤1:=by omega
   cases t with
   | lf=>rfl
   | nd l v r=>rw [Tr.get_nd,ble_t hi]; rfl
 | f+1,i,t,h=>by
   rw [pthF_succ]
   have h2 : i / 2 < 2 ^ (f+1):=by rw [Nat.pow_succ] at h; omega
   cases hb : Nat.ble i 1 with
   | true=>cases t with
     | lf=>rfl
     | nd l v r=>rw [Tr.get_nd,hb]; rfl
   | false=>cases hm : Nat.beq (i % 2) 0 with
     | true=>cases t with
       | lf=>rfl
       | nd l v r=>rw [Tr.get_nd,hb,hm]; exact getV_eq f _ l h2
     | false=>cases t with
       | lf=>rfl
       | nd l v r=>rw [Tr.get_nd,hb,hm]; exact getV_eq f _ r h2
theorem setV_eq (x : AV) : ∀ (f i : Nat) (t : Tr AV),i < 2 ^ (f+1)→setV (pthF f i) x t=t.set x i
 | 0,i,t,h=>by
   have hi : i≤1:=by omega
   cases t with
   | lf=>rfl
   | nd l v r=>rw [Tr.set_nd,ble_t hi]; rfl
 | f+1,i,t,h=>by
   rw [pthF_succ]
   have h2 : i / 2 < 2 ^ (f+1):=by rw [Nat.pow_succ] at h; omega
   cases hb : Nat.ble i 1 with
   | true=>cases t with
     | lf=>rfl
     | nd l v r=>rw [Tr.set_nd,hb]; rfl
   | false=>cases hm : Nat.beq (i % 2) 0 with
     | true=>cases t with
       | lf=>rfl
       | nd l v r =>
         rw [Tr.set_nd,hb,hm]
         show stVL (setV (pthF f (i / 2)) x l) v r=_
         rw [stVL_eq,setV_eq x f _ l h2]
         rfl
     | false=>cases t with
       | lf=>rfl
       | nd l v r =>
         rw [Tr.set_nd,hb,hm]
         show stVR (setV (pthF f (i / 2)) x r) l v=_
         rw [stVR_eq,setV_eq x f _ r h2]
         rfl
theorem lt_two_pow_succ_V (i : Nat) : i < 2 ^ (i+1):=Nat.lt_of_lt_of_le (Nat.lt_two_pow_self (n:=i)) (Nat.pow_le_pow_right (by decide) (Nat.le_succ i))
theorem getV_pth (i : Nat) (t : Tr AV) : getV (pth i) t=t.get (.tup []) i:=getV_eq i i t (lt_two_pow_succ_V i)
theorem setV_pth (i : Nat) (x : AV) (t : Tr AV) : setV (pth i) x t=t.set x i:=setV_eq x i i t (lt_two_pow_succ_V i)
noncomputable def gBE (t : Tr AB) : AB:=Tr.rec (motive:=fun _=>AB) .dead (fun _ v _ _ _=>v) t
noncomputable def gBL (_ : Pth) (ih : Tr AB→AB) (t : Tr AB) : AB:=Tr.rec (motive:=fun _=>(Tr AB→AB)→AB) (fun _=>.dead) (fun l _ _ _ _ ih=>ih l) t ih
noncomputable def gBR (_ : Pth) (ih : Tr AB→AB) (t : Tr AB) : AB:=Tr.rec (motive:=fun _=>(Tr AB→AB)→AB) (fun _=>.dead) (fun _ _ r _ _ ih=>ih r) t ih
noncomputable def getB (p : Pth) (t : Tr AB) : AB:=Pth.rec (motive:=fun _=>Tr AB→AB) gBE gBL gBR p t
noncomputable def stBL (t : Tr AB) (v : AB) (r : Tr AB) : Tr AB:=Tr.rec (motive:=fun _=>AB→Tr AB→Tr AB) (fun v r=>.nd .lf v r) (fun a b c _ _ v r=>.nd (.nd a b c) v r) t v r
noncomputable def stBR (t : Tr AB) (l : Tr AB) (v : AB) : Tr AB:=Tr.rec (motive:=fun _=>Tr AB→AB→Tr AB) (fun l v=>.nd l v .lf) (fun a b c _ _ l v=>.nd l v (.nd a b c)) t l v
noncomputable def sBE (x : AB) (t : Tr AB) : Tr AB:=Tr.rec (motive:=fun _=>AB→Tr AB) (fun _=>.lf) (fun l _ r _ _ x=>.nd l x r) t x
noncomputable def sBL (_ : Pth) (ih : AB→Tr AB→Tr AB) (x : AB) (t : Tr AB) : Tr AB:=Tr.rec (motive:=fun _=>(AB→Tr AB→Tr AB)→AB→Tr AB) (fun _ _=>.lf) (fun l v r _ _ ih x=>stBL (ih x l) v r) t ih x
noncomputable def sBR (_ : Pth) (ih : AB→Tr AB→Tr AB) (x : AB) (t : Tr AB) : Tr AB:=Tr.rec (motive:=fun _=>(AB→Tr AB→Tr AB)→AB→Tr AB) (fun _ _=>.lf) (fun l v r _ _ ih x=>stBR (ih x r) l v) t ih x
noncomputable def setB (p : Pth) (x : AB) (t : Tr AB) : Tr AB:=Pth.rec (motive:=fun _=>AB→Tr AB→Tr AB) sBE sBL sBR p x t
noncomputable def pBE (x : AB) (t : Tr AB) : Tr AB:=Tr.rec (motive:=fun _=>AB→Tr AB) (fun x=>.nd .lf x .lf) (fun l _ r _ _ x=>.nd l x r) t x
noncomputable def pBL (_ : Pth) (ih : AB→Tr AB→Tr AB) (x : AB) (t : Tr AB) : Tr AB:=Tr.rec (motive:=fun _=>(AB→Tr AB→Tr AB)→AB→Tr AB) (fun _ x=>.nd .lf x .lf) (fun l v r _ _ ih x=>stBL (ih x l) v r) t ih x
noncomputable def pBR (_ : Pth) (ih : AB→Tr AB→Tr AB) (x : AB) (t : Tr AB) : Tr AB:=Tr.rec (motive:=fun _=>(AB→Tr AB→Tr AB)→AB→Tr AB) (fun _ x=>.nd .lf x .lf) (fun l v r _ _ ih x=>stBR (ih x r) l v) t ih x
noncomputable def pushB (p : Pth) (x : AB) (t : Tr AB) : Tr AB:=Pth.rec (motive:=fun _=>AB→Tr AB→Tr AB) pBE pBL pBR p x t
theorem stBL_eq (t : Tr AB) (v : AB) (r : Tr AB) : stBL t v r=.nd t v r:=by cases t<;>rfl
theorem stBR_eq (t : Tr AB) (l : Tr AB) (v : AB) : stBR t l v=.nd l v t:=by cases t<;>rfl
theorem getB_eq : ∀ (f i : Nat) (t : Tr AB),i < 2 ^ (f+1)→getB (pthF f i) t=t.get .dead i
 | 0,i,t,h=>by
   have hi : i≤1:=by omega
   cases t with
   | lf=>rfl
   | nd l v r=>rw [Tr.get_nd,ble_t hi]; rfl
 | f+1,i,t,h=>by
   rw [pthF_succ]
   have h2 : i / 2 < 2 ^ (f+1):=by rw [Nat.pow_succ] at h; omega
   cases hb : Nat.ble i 1 with
   | true=>cases t with
     | lf=>rfl
     | nd l v r=>rw [Tr.get_nd,hb]; rfl
   | false=>cases hm : Nat.beq (i % 2) 0 with
     | true=>cases t with
       | lf=>rfl
       | nd l v r=>rw [Tr.get_nd,hb,hm]; exact getB_eq f _ l h2
     | false=>cases t with
       | lf=>rfl
       | nd l v r=>rw [Tr.get_nd,hb,hm]; exact getB_eq f _ r h2
theorem setB_eq (x : AB) : ∀ (f i : Nat) (t : Tr AB),i < 2 ^ (f+1)→setB (pthF f i) x t=t.set x i
 | 0,i,t,h=>by
   have hi : i≤1:=by omega
   cases t with
   | lf=>rfl
   | nd l v r=>rw [Tr.set_nd,ble_t hi]; rfl
 | f+1,i,t,h=>by
   rw [pthF_succ]
   have h2 : i / 2 < 2 ^ (f+1):=by rw [Nat.pow_succ] at h; omega
   cases hb : Nat.ble i 1 with
   | true=>cases t with
     | lf=>rfl
     | nd l v r=>rw [Tr.set_nd,hb]; rfl
   | false=>cases hm : Nat.beq (i % 2) 0 with
     | true=>cases t with
       | lf=>rfl
       | nd l v r =>
         rw [Tr.set_nd,hb,hm]
         show stBL (setB (pthF f (i / 2)) x l) v r=_
         rw [stBL_eq,setB_eq x f _ l h2]
         rfl
     | false=>cases t with
       | lf=>rfl
       | nd l v r =>
         rw [Tr.set_nd,hb,hm]
         show stBR (setB (pthF f (i / 2)) x r) l v=_
         rw [stBR_eq,setB_eq x f _ r h2]
         rfl
theorem pushB_eq (x : AB) : ∀ (f i : Nat) (t : Tr AB),i < 2 ^ (f+1)→pushB (pthF f i) x t=t.push x i
 | 0,i,t,h=>by
   have hi : i≤1:=by omega
   cases t with
   | lf=>rfl
   | nd l v r=>rw [Tr.push_nd,ble_t hi]; rfl
 | f+1,i,t,h=>by
   rw [pthF_succ]
   have h2 : i / 2 < 2 ^ (f+1):=by rw [Nat.pow_succ] at h; omega
   cases hb : Nat.ble i 1 with
   | true=>cases t with
     | lf=>rfl
     | nd l v r=>rw [Tr.push_nd,hb]; rfl
   | false=>cases hm : Nat.beq (i % 2) 0 with
     | true=>cases t with
       | lf=>rfl
       | nd l v r =>
         rw [Tr.push_nd,hb,hm]
         show stBL (pushB (pthF f (i / 2)) x l) v r=_
         rw [stBL_eq,pushB_eq x f _ l h2]
         rfl
     | false=>cases t with
       | lf=>rfl
       | nd l v r =>
         rw [Tr.push_nd,hb,hm]
         show stBR (pushB (pthF f (i / 2)) x r) l v=_
         rw [stBR_eq,pushB_eq x f _ r h2]
         rfl
theorem lt_two_pow_succ_B (i : Nat) : i < 2 ^ (i+1):=Nat.lt_of_lt_of_le (Nat.lt_two_pow_self (n:=i)) (Nat.pow_le_pow_right (by decide) (Nat.le_succ i))
theorem getB_pth (i : Nat) (t : Tr AB) : getB (pth i) t=t.get .dead i:=getB_eq i i t (lt_two_pow_succ_B i)
theorem setB_pth (i : Nat) (x : AB) (t : Tr AB) : setB (pth i) x t=t.set x i:=setB_eq x i i t (lt_two_pow_succ_B i)
theorem pushB_pth (i : Nat) (x : AB) (t : Tr AB) : pushB (pth i) x t=t.push x i:=pushB_eq x i i t (lt_two_pow_succ_B i)
end Go.Abs
