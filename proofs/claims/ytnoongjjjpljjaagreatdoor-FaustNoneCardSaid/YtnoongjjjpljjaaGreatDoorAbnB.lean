/- Loops over maps: sound. The builtins: sound. Each operation is what the abstract one says. The interpreter is sound: what it says of a call, the machine's call does. A table of types out of a list; the first state of a run; what a call that was given no block leaves. The table of types, asked by the kernel. Words for running the interpreter by hand: a region as a list of operations, one at a time. A region whose order is drawn: operations that leave the heap be, in any order. A region whose order is drawn, in which operations that may change the heap stand in a chain: all others are told again at each heap that they may meet. A region whose order is drawn, in which operations that may change the heap stand in no order: each way is told. Places that are named lie in the heap: appending keeps that. Places of the abstract heap get other numbers; what nobody reaches is left behind. A call that names a part of the heap alone leaves the rest be: told at that part, it holds at the whole. Closed runs, at any heap. Closed runs: the interpreter as a function, with fuel. Closed runs in parts: calls that are known already are looked up. -/
import Derived.Test.YtnoongjjjpljjaaGreatDoorAbnA
import Derived.Maps.RangeRun
import Derived.Scope
import Derived.Orders
namespace Go.Abs
theorem range_sound {P : Program} {T : TT} (hT : TyOk P T) {x : Cx} {H H' : AH} (hr : Rel x H) {t : TypeId} {a v : AV} {u : Value} (ha : R x a u) (h : arange T H t a=some (v,H')) : OutV x H H' v ((Instr.range t u).run P x.w):=by
 have fin : ∀ (src : Option Nat) (since : Nat) (hs : ∀ l,src=some l→l < x.N∧x.ver l=0) (hv : v=.ptr H.length 0) (hH : H'=H++[.iter src since [] since])
   (hrun : (Instr.range t u).run P x.w=.ok (.pointer (some ⟨x.w.heap.size,0,none⟩)) (x.w.alloc (.mapIter (src.map fun l=>(x.at_ l).1) since #[] since))),OutV x H H' v ((Instr.range t u).run P x.w):=by
  rintro src since hs rfl rfl hrun
  have h:=hr.push (.mapIter (src.map fun l=>(x.at_ l).1) since #[] since) (.iter src since [] since) (x.w.alloc (.mapIter (src.map fun l=>(x.at_ l).1) since #[] since)) rfl rfl rfl rfl
   (fun hk=>⟨x.new_ver _ _,by rw [x.new_at],fun l hl=>⟨(hk.place (hs l hl).1 (hs l hl).2).1,(hk.place (hs l hl).1 (hs l hl).2).2.1⟩,by
    rw [x.new_at]
    show (x.w.heap.push _)[_]?=_
    simp only [Array.getElem?_push_size]
    cases src with
    | none=>rfl
    | some l=>simp only [Option.map_some,x.new_old _ _ (hs l rfl).1]⟩)
  exact ⟨_,_,hrun,h.1,h.2.1,h.2.2,row_ptr _ hr.N⟩
 unfold arange at h
 split at h
 ·rename_i k e hd
  cases h
  have hu:=(hT.ty t (by rw [hd]; rfl)).desc
  rw [hd] at hu
  simp only [DescOk] at hu
  simp only [R] at ha
  subst ha
  exact fin none 0 (by simp) rfl rfl (by simp [Instr.range,run_underlying hu])
 ·rename_i k e l hd
  simp only [Option.map_eq_some_iff] at h
  obtain ⟨⟨es,bs,clock⟩,hm,h⟩:=h
  cases h
  have hl:=amap_some hm
  have hu:=(hT.ty t (by rw [hd]; rfl)).desc
  rw [hd] at hu
  simp only [DescOk] at hu
  simp only [R] at ha
  obtain ⟨hN,hv0,rfl⟩:=ha
  obtain ⟨_,c,h1,_⟩:=hr.block l _ hl
  exact fin (some l) clock (by intro l' e; cases e; exact ⟨hN,hv0⟩) rfl rfl (by simp [Instr.range,run_underlying hu,getMap_run h1])
 ·cases h
theorem aleft_some {H : AH} {p : Nat} {L : List (AV×AV×Nat)} {l since clock : Nat} {seen : List Nat} (h : aleft H p=some (L,some (l,since,seen,clock))) :
  ∃ es bs last,H[p]?=some (.iter (some l) since seen last)∧amap H l=some (es,bs,clock)∧(∀ b∈bs,b < since)∧since≤last∧es.length=bs.length∧L=((es.zip bs).filter fun e=>!seen.contains e.2).map fun e=>(e.1.1,e.1.2,e.2):=by
 unfold aleft at h
 split at h
 ·cases h
 ·rename_i l' since' seen' last hp
  split at h
  ·rename_i es bs clock' hm
   split at h
   ·rename_i hc
    simp only [Bool.and_eq_true,List.all_eq_true,decide_eq_true_eq,beq_iff_eq] at hc
    cases h
    exact ⟨es,bs,last,hp,hm,hc.1.1,hc.1.2,hc.2,rfl⟩
   ·cases h
  ·cases h
 ·cases h
theorem aleft_none {H : AH} {p : Nat} {L : List (AV×AV×Nat)} (h : aleft H p=some (L,none)) : ∃ since seen last,H[p]?=some (.iter none since seen last)∧L=[]:=by
 unfold aleft at h
 split at h
 ·rename_i s hp
  cases h
  exact ⟨_,_,_,hp,rfl⟩
 ·split at h
  ·split at h
   ·cases h
   ·cases h
  ·cases h
 ·cases h
theorem next_sound {P : Program} {x : Cx} {H : AH} (hr : Rel x H) {p : Nat} {u : Value} (ha : R x (.ptr p 0) u) {L : List (AV×AV×Nat)} {info : Option (Nat×Nat×List Nat×Nat)} (h : aleft H p=some (L,info)) (ty : TypeId) :
  (L=[]∧∃ v,(Instr.next u false ty).run P x.w=.ok v x.w∧R x (.tup [.bool false]) v) ∨
  ∃ e l since seen clock,e∈L∧info=some (l,since,seen,clock)∧OutV x H (H.set p (.iter (some l) since (seen++[e.2.2]) clock)) (.tup [.bool true,e.1,e.2.1]) ((Instr.next u false ty).run P x.w):=by
 simp only [R] at ha
 obtain ⟨hN,hv0,rfl⟩:=ha
 cases info with
 | none =>
   obtain ⟨since,seen,last,hp,rfl⟩:=aleft_none h
   obtain ⟨_,h0,_,hb⟩:=hr.block p _ hp
   refine .inl ⟨rfl,.tuple #[.bool false],?_,by simp only [R]; exact ⟨_,rfl,_,_,rfl,by simp [R],rfl⟩⟩
   rw [h0]
   simp only [Option.map_none] at hb
   simp [Instr.next,getObj,Sem.run,hb,Result.andThen]
 | some info =>
   obtain ⟨l,since,seen,clock⟩:=info
   obtain ⟨es,bs,last,hp,hm,hbs,hsl,hlen,rfl⟩:=aleft_some h
   obtain ⟨hvp,h0,hlN,hb⟩:=hr.block p _ hp
   simp only [Option.map_some] at hb
   obtain ⟨_,c,hc,hk,hv,hborn⟩:=hr.block l _ (amap_some hm)
   rw [h0]
   have hold : ∀ e∈c.toList,e.born < since:=fun e he=>hbs _ (by rw [← hborn]; exact List.mem_map.2 ⟨e,he,rfl⟩)
   have hlc : c.toList.length=es.length:=by have:=hk.length; simpa using this
   rcases run_next_at (P:=P) x.w ty (x.at_ p).1 (x.at_ l).1 since last seen.toArray c clock hb hc hold hsl with ⟨hz,hrun⟩|⟨e,he,w1,hw1,hrun⟩
   ·left
    refine ⟨?_,.tuple #[.bool false],hrun,by simp only [R]; exact ⟨_,rfl,_,_,rfl,by simp [R],rfl⟩⟩
    rw [List.map_eq_nil_iff,List.filter_eq_nil_iff]
    rintro ⟨e1,b⟩ hm1 hnb
    obtain ⟨i,hi⟩:=List.getElem?_of_mem hm1
    rw [List.getElem?_zip_eq_some] at hi
    have hib : (c.toList.map (·.born))[i]?=some b:=by rw [hborn]; exact hi.2
    rw [List.getElem?_map,Option.map_eq_some_iff] at hib
    obtain ⟨e',he',hbe⟩:=hib
    have hmem : e'∈leftOf c seen.toArray:=by
     unfold leftOf
     rw [Array.mem_filter]
     refine ⟨by simpa using List.mem_of_getElem? he',?_⟩
     rw [hbe]
     simpa using hnb
    have:=Array.size_pos_of_mem hmem
    omega
   ·right
    have hmem : e∈c∧(!seen.toArray.contains e.born)=true:=by
     have : e∈leftOf c seen.toArray:=by simpa using he
     unfold leftOf at this
     exact Array.mem_filter.1 this
    obtain ⟨i,hi⟩:=List.getElem?_of_mem (show e∈c.toList by simpa using hmem.1)
    have hilt : i < es.length:=by have:=(List.getElem?_eq_some_iff.1 hi).1; omega
    have hie : es[i]?=some es[i]:=List.getElem?_eq_getElem hilt
    have hib : bs[i]?=some e.born:=by rw [← hborn,List.getElem?_map,hi]; rfl
    obtain ⟨kv,hkv,hkr⟩:=hk.get (i:=i) (a:=es[i].1) (by rw [List.getElem?_map,hie]; rfl)
    obtain ⟨vv,hvv,hvr⟩:=hv.get (i:=i) (a:=es[i].2) (by rw [List.getElem?_map,hie]; rfl)
    rw [List.getElem?_map,hi] at hkv hvv
    cases hkv
    cases hvv
    have hheap : w1.heap=x.w.heap∧w1.os=x.w.os∧w1.tape=x.w.tape∧w1.output=x.w.output:=by rcases hw1 with rfl|rfl<;>exact ⟨rfl,rfl,rfl,rfl⟩
    have hlive : Live H p:=⟨_,hp,rfl⟩
    have hlt:=Own.lt hr ⟨p,hlive,rfl⟩
    let w':=Go.ChangeMaps.setBlock w1 (x.at_ p).1 (.mapIter (some (x.at_ l).1) since (seen.toArray.push e.born) clock)
    have hwh : w'.heap=x.w.heap.setIfInBounds (x.at_ p).1 (.mapIter (some (x.at_ l).1) since (seen.toArray.push e.born) clock):=by
     show w1.heap.setIfInBounds _ _=_
     rw [hheap.1]
    have hup:=hr.update (.iter (some l) since (seen++[e.born]) clock) hp rfl rfl rfl rfl w' (by rw [hwh]; simp) (fun k hk=>by rw [hwh]; exact Array.getElem?_setIfInBounds_ne (Ne.symm hk))
     (fun s hs=>by unfold bsz at hs; rw [hb] at hs; cases hs) hheap.2.1 hheap.2.2.1 hheap.2.2.2 (fun _=>⟨hvp,h0,hlN,by
      show w'.heap[_]?=_
      rw [hwh,Array.getElem?_setIfInBounds_self_of_lt hlt]
      simp⟩)
    refine ⟨(es[i].1,es[i].2,e.born),l,since,seen,clock,?_,rfl,_,_,hrun,hup.1,hup.2.1,hup.2.2,?_⟩
    ·rw [List.mem_map]
     refine ⟨(es[i],e.born),?_,rfl⟩
     rw [List.mem_filter]
     refine ⟨List.mem_of_getElem? (i:=i) (by rw [List.getElem?_zip_eq_some]; exact ⟨hie,hib⟩),?_⟩
     simpa using hmem.2
    ·simp only [R]
     exact ⟨_,rfl,_,_,rfl,by simp [R],_,_,rfl,R.keeps hup.2.2 _ _ hkr,_,_,rfl,R.keeps hup.2.2 _ _ hvr,rfl⟩
theorem entry_sound {P : Program} {x : Cx} {H : AH} (hr : Rel x H) {a v : AV} {u : Value} (ha : R x a u) (h : aentry H a=some v) : ∃ q,(Instr.entry u).run P x.w=.ok q x.w∧R x v q:=by
 unfold aentry at h
 split at h
 ·rename_i p
  simp only [R] at ha
  obtain ⟨hN,hv0,rfl⟩:=ha
  split at h
  ·rename_i l since seen stepped hp
   split at h
   ·rename_i es bs clock s hm hs
    split at h
    ·rename_i hcl
     simp only [Option.map_eq_some_iff] at h
     obtain ⟨⟨e1,b⟩,hf,rfl⟩:=h
     obtain ⟨hvp,h0,hlN,hb⟩:=hr.block p _ hp
     simp only [Option.map_some] at hb
     obtain ⟨_,c,hc,hk,hv,hborn⟩:=hr.block l _ (amap_some hm)
     rw [h0]
     have hback : seen.toArray.back?=some s:=by rw [← hs]; simp
     have key : ∀ (es : List (AV×AV)) (bs : List Nat) (c : List MapEntry),RL x (es.map (·.1)) (c.map (·.key))→RL x (es.map (·.2)) (c.map (·.val))→c.map (·.born)=bs →
       (es.zip bs).find? (fun e=>e.2==s)=some (e1,b)→∃ e',c.find? (fun e=>e.born==s)=some e'∧R x e1.1 e'.key∧R x e1.2 e'.val:=by
      intro es
      induction es with
      | nil=>intro bs c _ _ _ hf; simp at hf
      | cons a es ih =>
        intro bs c hk hv hborn hf
        cases c with
        | nil=>simp only [List.map_nil] at hborn; subst hborn; simp at hf
        | cons e' c =>
          subst hborn
          simp only [List.map_cons,RL] at hk hv
          obtain ⟨_,_,e1',k1,k2⟩:=hk
          cases e1'
          obtain ⟨_,_,e2',v1,v2⟩:=hv
          cases e2'
          simp only [List.map_cons,List.zip_cons_cons,List.find?_cons] at hf ⊢
          cases hq : e'.born==s with
          | true =>
            rw [hq] at hf
            cases hf
            exact ⟨e',rfl,k1,v1⟩
          | false =>
            rw [hq] at hf
            exact ih _ c k2 v2 rfl hf
     obtain ⟨e',hf',hr1,hr2⟩:=key es bs c.toList hk hv hborn hf
     have hfc : c.find? (fun e=>e.born==s)=some e':=by rw [← Array.find?_toList]; exact hf'
     refine ⟨.tuple #[e'.key,e'.val],?_,?_⟩
     ·simp [Instr.entry,getObj,Sem.run,hb,hc,Result.andThen,hback,hcl.1,hfc]
     ·simp only [R]
      exact ⟨_,rfl,_,_,rfl,hr1,_,_,rfl,hr2,rfl⟩
    ·cases h
   ·cases h
  ·cases h
 ·cases h
end Go.Abs
namespace Go.Abs
theorem Out.of_value {x : Cx} {H H' : AH} {v : AV} {P : Program} {s : Sem Value} (h : OutV x H H' v (s.run P x.w)) : Out x H H' v ((do Pure.pure (Next.value (← s)) : Sem Next).run P x.w):=by
 obtain ⟨u,y,h1,h2⟩:=h
 exact ⟨u,y,.inl (run_value h1),h2⟩
section
variable {P : Program} {T : TT} (hT : TyOk P T)
include hT
theorem len_sound {x : Cx} {H H' : AH} (hr : Rel x H) {t ty : TypeId} {a v : AV} {u : Value} (ha : R x a u) (h : abuiltin T H .len #[t] [a]=some (v,H')) : OutV x H H' v ((Builtin.len_ #[t] ty #[u]).run P x.w):=by
 simp only [abuiltin] at h
 split at h
 ·rename_i s hd
  cases h
  have hu:=TyOk.desc hT hd rfl
  simp only [DescOk] at hu
  simp only [R] at ha
  subst ha
  have hsz : ByteArray.size ⟨s.toArray⟩=s.length:=by simp [ByteArray.size]
  exact OutV.pure hr rfl (by simp [Builtin.len_,run_underlying hu,goInt,hsz])
 ·rename_i e nl ex cs n hd
  cases h
  have hu:=TyOk.desc hT hd rfl
  simp only [DescOk] at hu
  simp only [R] at ha
  rcases ha with ⟨⟨p,hpn,rfl⟩,_,rfl⟩|⟨_,b,o,cap,vs,rfl,_⟩
  ·exact OutV.pure hr rfl (by simp [Builtin.len_,run_underlying hu,goInt])
  ·exact OutV.pure hr rfl (by simp [Builtin.len_,run_underlying hu,goInt])
 ·rename_i e l0 ver nl cs n sz0 hd
  cases h
  have hu:=TyOk.desc hT hd rfl
  simp only [DescOk] at hu
  have ha:=ha.weak
  simp only [AV.weak,R] at ha
  rcases ha with ⟨⟨p,hpn,rfl⟩,_,rfl⟩|⟨_,b,o,cap,vs,rfl,_⟩
  ·exact OutV.pure hr rfl (by simp [Builtin.len_,run_underlying hu,goInt])
  ·exact OutV.pure hr rfl (by simp [Builtin.len_,run_underlying hu,goInt])
 ·rename_i e ex l off n sz hd
  cases h
  have hu:=TyOk.desc hT hd rfl
  simp only [DescOk] at hu
  simp only [R] at ha
  obtain ⟨_,⟨_,rfl,rfl⟩|⟨_,cap,S,o,rfl,_⟩⟩:=ha
  ·exact OutV.pure hr rfl (by simp [Builtin.len_,run_underlying hu,goInt])
  exact OutV.pure hr rfl (by simp [Builtin.len_,run_underlying hu,goInt])
 ·rename_i n e hd
  cases h
  have hu:=TyOk.desc hT hd rfl
  simp only [DescOk] at hu
  exact OutV.pure hr rfl (by simp [Builtin.len_,run_underlying hu,goInt])
 ·rename_i k e hd
  simp only [Option.map_eq_some_iff] at h
  obtain ⟨v',hv,h⟩:=h
  cases h
  exact maplen_sound hT hr hd ha hv
 ·cases h
theorem clear_sound {x : Cx} {H H' : AH} (hr : Rel x H) {t ty : TypeId} {a v : AV} {u : Value} (ha : R x a u) (h : abuiltin T H .clear #[t] [a]=some (v,H')) : OutV x H H' v ((Builtin.clear_ #[t] ty #[u]).run P x.w):=by
 simp only [abuiltin] at h
 split at h
 ·rename_i e nl ex cs hd
  cases h
  have hu:=TyOk.desc hT hd rfl
  simp only [DescOk] at hu
  simp only [R] at ha
  rcases ha with ⟨⟨p,hpn,rfl⟩,_⟩|⟨_,b,o,cap,vs,rfl,_⟩
  ·exact OutV.pure (u:=.tuple #[]) hr (by simp only [R]; exact ⟨[],rfl,rfl⟩) (by cases p<;>simp [Builtin.clear_,run_underlying hu])
  ·exact OutV.pure (u:=.tuple #[]) hr (by simp only [R]; exact ⟨[],rfl,rfl⟩) (by simp [Builtin.clear_,run_underlying hu])
 ·rename_i e ex l off n sz hd
  have hu:=TyOk.desc hT hd rfl
  simp only [DescOk] at hu
  have hk:=hT.sub t (by rw [hd]; rfl) e (by rw [hd]; simp [AD.subs])
  simp only [R] at ha
  obtain ⟨_,⟨hn0,_⟩|⟨_,cap,S,o,rfl,ho,hle,_⟩⟩:=ha
  ·cases hn0
  split at h
  ·rename_i hc
   obtain ⟨hsz,hn⟩:=hc
   subst hsz
   simp only [Option.map_eq_some_iff] at h
   obtain ⟨H1,hw,h⟩:=h
   cases h
   have ho':=ho (by omega)
   subst ho'
   obtain ⟨i,z,hi,hs,hb,hz,hzs,hm⟩:=(hT.ty e hk).info
   have hcl:=RL.closed (x:=x) hm
   have hzr:=zeros_row hcl.1 n
   obtain ⟨w',g1,g2,g3,g4⟩:=write_sound hr hzr (fun a ha=>by
    obtain ⟨l,hl,ha⟩:=List.mem_flatten.1 ha
    rw [(List.mem_replicate.1 hl).2] at ha
    exact hcl.2 a ha) hw P
   refine ⟨.tuple #[],_,?_,g2,g3,g4,by simp only [R]; exact ⟨[],rfl,rfl⟩⟩
   have hzv : (zeroValue e).run P x.w=.ok z x.w:=by simp [zeroValue,typeInfo,hi,hz]
   obtain ⟨n',rfl⟩ : ∃ n',n=n'+1:=⟨n - 1,by omega⟩
   have g1' : (storeCells ⟨(x.at_ l).1,(x.at_ l).2+off,none⟩ (Builtin.zeroCells z.cells (n'+1)).toList).run P x.w=.ok () w':=g1
   simp [Builtin.clear_,run_underlying hu,hzv,g1']
  ·split at h
   ·rename_i h0
    cases h
    subst h0
    exact OutV.pure (u:=.tuple #[]) hr (by simp only [R]; exact ⟨[],rfl,rfl⟩) (by simp [Builtin.clear_,run_underlying hu])
   ·cases h
 ·cases h
omit hT in
theorem args_sound {G : Nat→Option (List AV)} {x : Cx} {fr : List AV} {a : Act} (hG : GOk G x) (hl : RL x fr a.tmps.toList) : ∀ {os : List Operand} {as : List AV},os.mapM (aval G fr)=some as→RL x as (os.map a.eval)
 | [],as,h=>by simp at h; subst h; simp [RL]
 | o::os,as,h=>by
   simp only [List.mapM_cons,Option.bind_eq_bind,Option.bind_eq_some_iff,Option.pure_def,Option.some.injEq] at h
   obtain ⟨v,hv,r,hr,rfl⟩:=h
   exact ⟨_,_,rfl,aval_sound hG hl hv,args_sound hG hl hr⟩
theorem builtin_sound {x : Cx} {H H' : AH} (hr : Rel x H) {b : Builtin} {ts : Array TypeId} {ty : TypeId} {cs : Array Bool} {as : List AV} {us : Array Value} {v : AV} (ha : RL x as us.toList) (h : abuiltin T H b ts as=some (v,H')) :
  Out x H H' v ((Go.builtin b ts ty cs us).run P x.w):=by
 have h0:=h
 unfold abuiltin at h
 split at h
 ·rename_i t a hts
  obtain rfl : ts=#[t]:=by apply Array.ext'; simpa using hts
  simp only [RL] at ha
  obtain ⟨u,r,e,hu,rfl⟩:=ha
  obtain rfl : us=#[u]:=by apply Array.ext'; simpa using e
  exact Out.of_value (len_sound hT hr hu h0)
 ·rename_i t u s a hts
  obtain rfl : ts=#[t,u]:=by apply Array.ext'; simpa using hts
  simp only [RL] at ha
  obtain ⟨su,r,e,hs,au,r',e',ha,rfl⟩:=ha
  obtain rfl : us=#[su,au]:=by apply Array.ext'; rw [e,e']
  exact Out.of_value (append_sound hT hr hs ha h)
 ·rename_i t u s a hts
  obtain rfl : ts=#[t,u]:=by apply Array.ext'; simpa using hts
  simp only [RL] at ha
  obtain ⟨su,r,e,hs,au,r',e',ha,rfl⟩:=ha
  obtain rfl : us=#[su,au]:=by apply Array.ext'; rw [e,e']
  exact Out.of_value (copy_sound hT hr hs ha h)
 ·rename_i k p k' q
  split at h
  ·rename_i hk
   subst hk
   cases h
   simp only [RL] at ha
   obtain ⟨su,r,e,hs,au,r',e',ha,rfl⟩:=ha
   simp only [R] at hs ha
   subst hs ha
   rw [e'] at e
   refine Out.of_value (OutV.pure (u:=.int k (if q < p then q else p)) hr (by simp only [R]) ?_)
   simp [Builtin.min_,e,Builtin.min2]
  ·cases h
 ·rename_i k p k' q
  split at h
  ·rename_i hk
   subst hk
   cases h
   simp only [RL] at ha
   obtain ⟨su,r,e,hs,au,r',e',ha,rfl⟩:=ha
   simp only [R] at hs ha
   subst hs ha
   rw [e'] at e
   refine Out.of_value (OutV.pure (u:=.int k (if q>p then q else p)) hr (by simp only [R]) ?_)
   simp [Builtin.max_,e,Builtin.max2]
  ·cases h
 ·rename_i t u s a hts
  obtain rfl : ts=#[t,u]:=by apply Array.ext'; simpa using hts
  simp only [RL] at ha
  obtain ⟨su,r,e,hs,au,r',e',ha,rfl⟩:=ha
  obtain rfl : us=#[su,au]:=by apply Array.ext'; rw [e,e']
  simp only [Option.map_eq_some_iff] at h
  obtain ⟨H1,hd,h⟩:=h
  cases h
  exact Out.of_value (delete_sound hT hr hs ha hd)
 ·rename_i t a hts
  obtain rfl : ts=#[t]:=by apply Array.ext'; simpa using hts
  simp only [RL] at ha
  obtain ⟨u,r,e,hu,rfl⟩:=ha
  obtain rfl : us=#[u]:=by apply Array.ext'; simpa using e
  exact Out.of_value (clear_sound hT hr hu h0)
 ·cases h
end
end Go.Abs
namespace Go.Abs
theorem Out.of_val {x : Cx} {H : AH} {v : AV} {P : Program} {s : Sem Value} (hr : Rel x H) (h : ∃ q,s.run P x.w=.ok q x.w∧R x v q) : Out x H H v ((do Pure.pure (Next.value (← s)) : Sem Next).run P x.w):=by
 obtain ⟨q,h1,h2⟩:=h
 exact Out.of_value ⟨q,x,h1,Mv.refl H (Nat.le_refl _),hr,Keeps.refl x,h2⟩
theorem optM_sound {G : Nat→Option (List AV)} {x : Cx} {fr : List AV} {a : Act} (hG : GOk G x) (hl : RL x fr a.tmps.toList) {o : Option Operand} {v : Option AV} (h : o.mapM (aval G fr)=some v) : RO x v (o.map a.eval):=by
 cases o with
 | none=>simp at h; subst h; trivial
 | some o =>
   simp only [Option.mapM_some,Option.map_eq_map,Option.map_eq_some_iff] at h
   obtain ⟨w,hw,rfl⟩:=h
   exact aval_sound hG hl hw
theorem wrapnil (ts : Array TypeId) (t : TypeId) (a : Addr) (s1 s2 : String) : Builtin.ssaWrapNilChk_ ts t #[.pointer (some a),strVal s1,strVal s2]=pure (.pointer (some a)):=rfl
theorem rl_pair {x : Cx} {a b : AV} {u v : Value} (h : R x a u) (k : R x b v) : RL x [a,b] [u,v]:=by
 simp only [RL]
 exact ⟨_,_,rfl,h,_,_,rfl,k,rfl⟩
section
variable {P : Program} {T : TT} (hT : TyOk P T)
include hT
theorem TyOk.notIface {t : TypeId} (hk : (T t).d.known=true) (hi : (T t).d.isIface=false) : ∃ d,P.underlying t=some d∧∀ ms,d≠.interface ms:=by
 have hd:=(hT.ty t hk).desc
 cases hdd : (T t).d<;>rw [hdd] at hd hi hk<;>simp only [DescOk,AD.isIface,AD.known] at hd hi hk<;>first
  | (cases hi; done)
  | (cases hk; done)
  | exact ⟨_,hd,fun ms e=>by cases e⟩
  | (obtain ⟨_,hd,_⟩:=hd; exact ⟨_,hd,fun ms e=>by cases e⟩)
  | (obtain ⟨_,_,_,hd⟩:=hd; exact ⟨_,hd,fun ms e=>by cases e⟩)
theorem mkIface_sound {x : Cx} {t : TypeId} (hk : (T t).d.known=true) (hi : (T t).d.isIface=false) {a : AV} {v : Value} (hv : R x a v) (w : World) : ∃ q,(Instr.makeInterface t v).run P w=.ok q w∧R x (.iface t a) q:=by
 obtain ⟨d,hd,hne⟩:=TyOk.notIface hT hk hi
 refine ⟨.iface t v,?_,by simp only [R]; exact ⟨v,rfl,hv⟩⟩
 unfold Instr.makeInterface
 cases d<;>first
  | exact absurd rfl (hne _)
  | simp [run_underlying hd]
theorem assert_sound {x : Cx} {t : TypeId} {ok : Bool} {a b : AV} {v : Value} (hv : R x a v) (h : aassert T t ok a=some b) (xt : TypeId) (w : World) : ∃ q,(Instr.typeAssert v xt t ok).run P w=.ok q w∧R x b q:=by
 have fails : ∀ z,(T t).d.known=true→azero T t=some z→∃ u,(zeroValue t).run P w=.ok u w∧R x (.tup [z,.bool false]) (.tuple #[u,.bool false]):=fun z hk hz=>by
  obtain ⟨u,h1,h2⟩:=azero_sound hT hz x w
  exact ⟨u,h1,by simp only [R]; exact ⟨[u,.bool false],rfl,rl_pair h2 (by simp [R])⟩⟩
 unfold aassert at h
 split at h
 ·rename_i u a'
  simp only [R] at hv
  obtain ⟨v',rfl,hv⟩:=hv
  split at h
  ·rename_i hk
   rw [Bool.and_eq_true] at hk
   obtain ⟨d,hd,hne⟩:=TyOk.notIface hT hk.1 (by simpa using hk.2)
   split at h
   ·rename_i he
    subst he
    cases h
    refine ⟨if ok then .tuple #[v',.bool true] else v',?_,?_⟩
    ·unfold Instr.typeAssert
     cases d<;>first
      | exact absurd rfl (hne _)
      | (cases ok<;>simp [run_underlying hd])
    ·cases ok with
     | true=>simp only [if_true,R]; exact ⟨[v',.bool true],rfl,rl_pair hv (by simp [R])⟩
     | false=>exact hv
   ·rename_i he
    split at h
    ·rename_i hok
     subst hok
     simp only [Option.map_eq_some_iff] at h
     obtain ⟨z,hz,rfl⟩:=h
     obtain ⟨q,h1,h2⟩:=fails z hk.1 hz
     refine ⟨_,?_,h2⟩
     unfold Instr.typeAssert
     cases d<;>first
      | exact absurd rfl (hne _)
      | simp [run_underlying hd,he,h1]
    ·cases h
  ·cases h
 ·simp only [R] at hv
  subst hv
  split at h
  ·rename_i hk
   rw [Bool.and_eq_true,Bool.and_eq_true] at hk
   obtain ⟨⟨hk1,hk2⟩,hok⟩:=hk
   subst hok
   obtain ⟨d,hd,hne⟩:=TyOk.notIface hT hk1 (by simpa using hk2)
   simp only [Option.map_eq_some_iff] at h
   obtain ⟨z,hz,rfl⟩:=h
   obtain ⟨q,h1,h2⟩:=fails z hk1 hz
   refine ⟨_,?_,h2⟩
   unfold Instr.typeAssert
   cases d<;>first
    | exact absurd rfl (hne _)
    | simp [run_underlying hd,h1]
  ·cases h
 ·cases h
theorem invoke_sound {x : Cx} {H : AH} (hr : Rel x H) {name : String} {a r : AV} {v : Value} {g : FuncId} (hv : R x a v) (h : ainvoke T H name a=some (g,r)) :
  ∃ t u q,v=.iface t u∧(method (P.types.size+Made.depth) t u name).run P x.w=.ok (g,q) x.w∧R x r q:=by
 unfold ainvoke at h
 split at h
 ·rename_i t a'
  simp only [R] at hv
  obtain ⟨u,rfl,hv⟩:=hv
  split at h
  ·rename_i hk
   simp only [Option.bind_eq_some_iff,Option.map_eq_some_iff,Prod.mk.injEq] at h
   obtain ⟨⟨g',ld⟩,hm,r',hrv,rfl,rfl⟩:=h
   unfold ameth at hm
   simp only [Option.map_eq_some_iff] at hm
   obtain ⟨m,hmf,hme⟩:=hm
   have hmem:=List.mem_of_find?_eq_some hmf
   have hname : m.1=name:=by simpa using List.find?_some hmf
   obtain ⟨i,row,p,hi,hrow,hpath,hfunc,hkind⟩:=(hT.ty t hk).meth m hmem
   rw [hname] at hrow
   rw [hme] at hfunc hkind
   obtain ⟨n,hn⟩ : ∃ n,P.types.size+Made.depth=n+1:=⟨P.types.size+Made.depth - 1,(Nat.sub_add_cancel (Nat.le_trans (by decide : 1≤Made.depth) (Nat.le_add_left _ _))).symm⟩
   rw [hn]
   cases ld with
   | false =>
     simp only [Bool.false_eq_true,if_false] at hkind
     simp only [arecv,Option.some.injEq] at hrv
     subst hrv
     refine ⟨t,u,u,rfl,?_,hv⟩
     obtain ⟨d,hd⟩ : ∃ d,P.underlying t=some d:=by
      have hd:=(hT.ty t hk).desc
      cases hdd : (T t).d<;>rw [hdd] at hd hk<;>simp only [DescOk,AD.known] at hd hk<;>first
       | (cases hk; done)
       | exact ⟨_,hd⟩
       | (obtain ⟨_,hd,_⟩:=hd; exact ⟨_,hd⟩)
       | (obtain ⟨_,_,_,hd⟩:=hd; exact ⟨_,hd⟩)
       | (obtain ⟨_,hd⟩:=hd; exact ⟨_,hd⟩)
     rw [hd] at hkind
     subst hkind
     unfold method
     cases d<;>simp [typeInfo,hi,hrow,hpath,hfunc,follow,receiverAt,run_underlying hd,isPtrDesc,Place.get]
   | true =>
     simp only [if_true] at hkind
     obtain ⟨hp1,rfl⟩:=hkind
     simp only [arecv] at hrv
     split at hrv
     ·rename_i e hde
      have hd:=(hT.ty t hk).desc
      rw [hde] at hd
      simp only [DescOk] at hd
      obtain ⟨q,h1,h2⟩:=aload_sound hT hr hv hrv
      obtain ⟨ad,rfl⟩ : ∃ ad,u=.pointer (some ad):=by
       unfold aload at hrv
       split at hrv
       ·simp only [R] at hv
        exact ⟨_,hv.2.2⟩
       ·simp only [R] at hv
        obtain ⟨_,_,_,hv,_⟩:=hv
        exact ⟨_,hv⟩
       ·cases hrv
      refine ⟨t,_,q,rfl,?_,h2⟩
      have h3 : (loadVar e ad).run P x.w=.ok q x.w:=by simpa [Instr.loadAt,Instr.sureAddr] using h1
      unfold method
      simp [typeInfo,hi,hrow,hpath,hfunc,follow,receiverAt,run_underlying hd,Place.get,wrapnil,asAddr,h3]
     ·cases hrv
  ·cases h
 ·cases h
theorem aop_sound {G : Nat→Option (List AV)} {x : Cx} {H H' : AH} {fr : List AV} {a : Act} (hr : Rel x H) (hG : GOk G x) (hl : RL x fr a.tmps.toList) (o : Oper) {v : AV} (h : aop T G fr H o.op=some (v,H')) :
  Out x H H' v ((execOp a.eval o).run P x.w):=by
 obtain ⟨dst,op,ty,pos,after,guard⟩:=o
 simp only at h
 unfold execOp
 simp only
 unfold aop at h
 split at h
 ·
  rename_i o
  simp only [Option.map_eq_some_iff] at h
  obtain ⟨u,hu,h⟩:=h
  cases h
  exact Out.pure hr (aval_sound hG hl hu) rfl
 ·rename_i o
  simp only [Option.map_eq_some_iff] at h
  obtain ⟨u,hu,h⟩:=h
  cases h
  exact Out.pure hr (aval_sound hG hl hu) rfl
 ·
  rename_i c p q
  split at h
  ·rename_i t pv qv ht hp hq
   cases h
   have hc:=aval_sound hG hl ht
   simp only [R] at hc
   cases t with
   | true=>exact Out.pure hr (aval_sound hG hl hp) (by simp [hc,asBool])
   | false=>exact Out.pure hr (aval_sound hG hl hq) (by simp [hc,asBool])
  ·cases h
 ·
  rename_i e
  split at h
  ·rename_i hk
   cases h
   obtain ⟨w',h1,h2,h3,h4⟩:=alloc_sound hT hr hk
   exact Out.of_value ⟨_,_,h1,h2,h3,h4,row_ptr w' hr.N⟩
  ·cases h
 ·
  rename_i e o
  simp only [Option.map_eq_some_iff,Option.bind_eq_some_iff] at h
  obtain ⟨cs,⟨u,hu,hc⟩,h⟩:=h
  cases h
  obtain ⟨w',h1,h2,h3,h4⟩:=box_sound (P:=P) (t:=e) hr (aval_sound hG hl hu) hc
  exact Out.of_value ⟨_,_,h1,h2,h3,h4,row_ptr w' hr.N⟩
 ·
  rename_i t parts
  split at h
  ·rename_i ps hps
   obtain ⟨p1,p2⟩:=parts_sound hG hl hps
   split at h
   ·rename_i fs hd
    simp only [Option.map_eq_some_iff] at h
    obtain ⟨cs,hcs,h⟩:=h
    cases h
    exact Out.of_val hr (build_struct_sound hT hd p1 p2 hcs)
   ·rename_i n e hd
    simp only [Option.map_eq_some_iff] at h
    obtain ⟨cs,hcs,h⟩:=h
    cases h
    exact Out.of_val hr (build_array_sound hT hd p1 p2 hcs)
   ·cases h
  ·cases h
 ·
  rename_i t n parts
  split at h
  ·rename_i ps hps
   obtain ⟨p1,p2⟩:=parts_sound hG hl hps
   split at h
   ·rename_i e hd
    split at h
    ·rename_i hb
     simp only [Option.map_eq_some_iff] at h
     obtain ⟨cs,hcs,h⟩:=h
     cases h
     exact Out.of_value (buildSlice_sound hT hr hd hb.1 hb.2 p1 p2 hcs)
    ·cases h
   ·cases h
  ·cases h
 ·
  rename_i t p
  simp only [Option.map_eq_some_iff,Option.bind_eq_some_iff] at h
  obtain ⟨q,⟨u,hu,hq⟩,h⟩:=h
  cases h
  exact Out.of_val hr (aload_sound hT hr (aval_sound hG hl hu) hq)
 ·
  rename_i t p q
  split at h
  ·rename_i pv qv hp hq
   simp only [Option.map_eq_some_iff] at h
   obtain ⟨H1,hs,h⟩:=h
   cases h
   obtain ⟨w',h1,h2,h3,h4⟩:=astore_sound hT hr (aval_sound hG hl hp) (aval_sound hG hl hq) hs
   refine ⟨undef,_,.inr ⟨?_,rfl⟩,h2,h3,h4,by simp only [R]; exact ⟨[],rfl,rfl⟩⟩
   simp [h1]
  ·cases h
 ·
  rename_i o
  split at h
  ·cases h
  ·cases h
  ·cases h
  ·cases h
  ·cases h
  ·rename_i u h1 h2 h3 h4 hu
   cases h
   have hv:=aval_sound hG hl hu
   refine Out.pure hr hv ?_
   dsimp only
   generalize a.eval o=q at hv ⊢
   cases v with
   | bool|int|str|nilmap=>simp only [R] at hv; subst hv; rfl
   | nilptr=>exact (h1 rfl).elim
   | nilif=>exact (h2 rfl).elim
   | nilfn=>exact (h3 rfl).elim
   | ptr|map=>simp only [R] at hv; obtain ⟨_,_,rfl⟩:=hv; rfl
   | lptr=>simp only [R] at hv; obtain ⟨_,_,_,rfl,_⟩:=hv; rfl
   | lit=>simp only [R] at hv; rcases hv with ⟨⟨p,hpn,rfl⟩,_⟩|⟨_,_,_,_,_,rfl,_⟩<;>rfl
   | ref=>simp only [R] at hv; rcases hv with ⟨_,⟨_,rfl,_⟩|⟨_,_,_,_,rfl,_⟩⟩<;>rfl
   | own=>have hv:=hv.weak; simp only [AV.weak,R] at hv; rcases hv with ⟨⟨p,hpn,rfl⟩,_⟩|⟨_,_,_,_,_,rfl,_⟩<;>rfl
   | any=>exact (h4 rfl).elim
   | fn=>simp only [R] at hv; obtain ⟨_,_,rfl,_⟩:=hv; rfl
   | iface=>simp only [R] at hv; obtain ⟨_,rfl,_⟩:=hv; rfl
   | agg=>simp only [R] at hv; obtain ⟨_,_,rfl,_⟩:=hv; rfl
   | tup=>simp only [R] at hv; obtain ⟨_,rfl,_⟩:=hv; rfl
 ·
  rename_i op t p q ty'
  split at h
  ·rename_i pv qv hp hq
   simp only [Option.map_eq_some_iff] at h
   obtain ⟨r,hs,h⟩:=h
   cases h
   exact Out.of_val hr (abin_sound hT (aval_sound hG hl hp) (aval_sound hG hl hq) hs p q x.w)
  ·cases h
 ·
  rename_i op t p
  simp only [Option.map_eq_some_iff,Option.bind_eq_some_iff] at h
  obtain ⟨q,⟨u,hu,hq⟩,h⟩:=h
  cases h
  exact Out.of_val hr (aun_sound (aval_sound hG hl hu) hq P x.w)
 ·
  rename_i s d p
  simp only [Option.bind_eq_some_iff] at h
  obtain ⟨u,hu,h⟩:=h
  exact Out.of_value (convert_sound hT hr (aval_sound hG hl hu) h)
 ·
  rename_i f first caps
  split at h
  ·rename_i fs cs hf hc
   cases h
   have h1:=args_sound hG hl hf
   have h2:=args_sound hG hl hc
   refine Out.of_val hr ⟨.func (.func f) (first.map a.eval) (caps.map a.eval),rfl,?_⟩
   simp only [R]
   exact ⟨(first.map a.eval).toList,(caps.map a.eval).toList,by rw [Array.toArray_toList,Array.toArray_toList],by simpa using h1,by simpa using h2⟩
  ·cases h
 ·
  rename_i t n c
  split at h
  ·rename_i nv cv hn hc
   exact Out.of_value (make_sound hT hr (aval_sound hG hl hn) (aval_sound hG hl hc) h)
  ·cases h
 ·
  rename_i t p lo hi mx
  split at h
  ·rename_i pv lov hiv mxv hp hlo hhi hmx
   simp only [Option.map_eq_some_iff] at h
   obtain ⟨q,hq,h⟩:=h
   cases h
   exact Out.of_val hr (aslice_sound hT hr (aval_sound hG hl hp) (optM_sound hG hl hlo) (optM_sound hG hl hhi) (optM_sound hG hl hmx) hq)
  ·cases h
 ·
  rename_i s p f
  split at h
  ·rename_i fs hd
   split at h
   ·rename_i g l o hg hp
    split at h
    ·cases h
    ·rename_i hz
     cases h
     have hv:=aval_sound hG hl hp
     simp only [R] at hv
     obtain ⟨hN,hv0,hv⟩:=hv
     refine Out.of_val hr ⟨.pointer (some ⟨(x.at_ l).1,(x.at_ l).2+o+g.2.1,none⟩),?_,?_⟩
     ·rw [hv]; exact fieldAddr_sound hT hd hg hz _ _
     ·simp only [R,Nat.add_assoc]
      exact ⟨hN,hv0,trivial⟩
   ·rename_i g cs o hg hp
    split at h
    ·cases h
    ·rename_i hz
     cases h
     have hv:=aval_sound hG hl hp
     simp only [R] at hv
     obtain ⟨b,o',vs,hv,k1,k2,k3,k4⟩:=hv
     refine Out.of_val hr ⟨.pointer (some ⟨b,o'+o+g.2.1,none⟩),?_,?_⟩
     ·rw [hv]; exact fieldAddr_sound hT hd hg hz _ _
     ·simp only [R]
      exact ⟨b,o',vs,by rw [Nat.add_assoc],k1,k2,k3,k4⟩
   ·cases h
  ·cases h
 ·
  rename_i t p f
  split at h
  ·rename_i fs hd
   split at h
   ·rename_i g cs hg hp
    simp only [Option.map_eq_some_iff] at h
    obtain ⟨q,hq,h⟩:=h
    cases h
    exact Out.of_val hr (field_sound hT hd hg (aval_sound hG hl hp) hq)
   ·cases h
  ·cases h
 ·
  rename_i t p i
  split at h
  ·rename_i pv iv hp hi
   simp only [Option.map_eq_some_iff] at h
   obtain ⟨q,hq,h⟩:=h
   cases h
   exact Out.of_val hr (indexAddr_sound hT (aval_sound hG hl hp) (aval_sound hG hl hi) hq)
  ·cases h
 ·
  rename_i t p i
  split at h
  ·rename_i pv iv hp hi
   simp only [Option.map_eq_some_iff] at h
   obtain ⟨q,hq,h⟩:=h
   cases h
   exact Out.of_val hr (index_sound hT (aval_sound hG hl hp) (aval_sound hG hl hi) hq)
  ·cases h
 ·
  rename_i p i
  split at h
  ·rename_i cs hp
   simp only [Option.map_eq_some_iff] at h
   obtain ⟨q,hq,h⟩:=h
   cases h
   have hv:=aval_sound hG hl hp
   simp only [R] at hv
   obtain ⟨vs,hv,hlv⟩:=hv
   obtain ⟨u,hu,hru⟩:=hlv.get hq
   refine Out.of_val hr ⟨u,?_,hru⟩
   rw [hv]
   simp [Instr.extract,hu]
  ·cases h
 ·
  cases h
  obtain ⟨w',h1,h2,h3,h4,h5⟩:=makeMap_sound (P:=P) hr ‹TypeId›
  simp only [Option.map_none]
  exact Out.of_value ⟨_,_,h1,h2,h3,h4,h5⟩
 ·
  simp only [Option.bind_eq_some_iff] at h
  obtain ⟨a,ha,h⟩:=h
  exact Out.of_value (range_sound hT hr (aval_sound hG hl ha) h)
 ·
  simp only [Option.map_eq_some_iff,Option.bind_eq_some_iff] at h
  obtain ⟨q,⟨a,ha,hq⟩,h⟩:=h
  cases h
  exact Out.of_val hr (entry_sound hr (aval_sound hG hl ha) hq)
 ·
  rename_i t m k ok
  split at h
  ·rename_i mv kv hm hk
   simp only [Option.map_eq_some_iff] at h
   obtain ⟨q,hq,h⟩:=h
   cases h
   exact Out.of_val hr (lookup_sound hT hr (aval_sound hG hl hm) (aval_sound hG hl hk) hq)
  ·cases h
 ·
  rename_i t m k v
  split at h
  ·rename_i mv kv vv hm hk hv
   simp only [Option.map_eq_some_iff] at h
   obtain ⟨H1,hs,h⟩:=h
   cases h
   obtain ⟨y,h1,h2,h3,h4⟩:=update_sound hT hr (aval_sound hG hl hm) (aval_sound hG hl hk) (aval_sound hG hl hv) hs
   refine ⟨undef,y,.inr ⟨?_,rfl⟩,h2,h3,h4,by simp only [R]; exact ⟨[],rfl,rfl⟩⟩
   simp [h1]
  ·cases h
 ·
  rename_i t m k v
  split at h
  ·rename_i mv kv vv hm hk hv
   simp only [Option.map_eq_some_iff] at h
   obtain ⟨H1,hs,h⟩:=h
   cases h
   obtain ⟨y,h1,h2,h3,h4⟩:=update_sound hT hr (aval_sound hG hl hm) (aval_sound hG hl hk) (aval_sound hG hl hv) hs
   refine ⟨undef,y,.inr ⟨?_,rfl⟩,h2,h3,h4,by simp only [R]; exact ⟨[],rfl,rfl⟩⟩
   simp [h1]
  ·cases h
 ·
  rename_i b args ts
  simp only [Option.bind_eq_some_iff] at h
  obtain ⟨as,has,h⟩:=h
  have h1:=args_sound hG hl has
  refine (?_ : Out x H H' v (Sem.run P (do let d ← resolve a.eval { callee:=.builtin b,args:=args,argTypes:=ts } ty; invoke d.target d.args) x.w))
  simp only [resolve,Sem.run_bind,Sem.run_pure,Result.andThen_ok,invoke]
  exact builtin_sound hT hr (by simpa using h1) h
 ·
  rename_i t o
  split at h
  ·rename_i hk
   rw [Bool.and_eq_true] at hk
   simp only [Option.map_eq_some_iff,Prod.mk.injEq] at h
   obtain ⟨u,hu,rfl,rfl⟩:=h
   exact Out.of_val hr (mkIface_sound hT hk.1 (by simpa using hk.2) (aval_sound hG hl hu) x.w)
  ·cases h
 ·rename_i o xt t ok
  simp only [Option.map_eq_some_iff,Option.bind_eq_some_iff,Prod.mk.injEq] at h
  obtain ⟨v',⟨u,hu,hv⟩,rfl,rfl⟩:=h
  exact Out.of_val hr (assert_sound hT (aval_sound hG hl hu) hv xt x.w)
 ·cases h
theorem aalt_sound {G : Nat→Option (List AV)} {x : Cx} {H H' : AH} {fr : List AV} {a : Act} (hr : Rel x H) (hG : GOk G x) (hl : RL x fr a.tmps.toList) (o : Oper) {j : Nat} {v : AV} (h : aalt T G fr H j o.op=some (v,H')) : Out x H H' v ((execOp a.eval o).run P x.w):=by
 obtain ⟨dst,op,ty,pos,after,guard⟩:=o
 simp only at h
 unfold execOp
 unfold aalt at h
 split at h
 ·rename_i t len parts
  simp only [Option.map_eq_some_iff,Prod.mk.injEq] at h
  obtain ⟨v',h,rfl,rfl⟩:=h
  simp only
  unfold afrozen at h
  split at h
  ·rename_i ps hps
   obtain ⟨p1,p2⟩:=parts_sound hG hl hps
   split at h
   ·rename_i e hd
    split at h
    ·rename_i hb
     simp only [Option.map_eq_some_iff] at h
     obtain ⟨cs,hcs,h⟩:=h
     cases h
     exact Out.of_value (buildSlice_frozen hT hr hd hb.1 hb.2 p1 p2 hcs)
    ·cases h
   ·cases h
  ·cases h
 ·rename_i args ts
  split at h
  ·rename_i t u s y hts has
   have h1:=args_sound hG hl has
   simp only [RL] at h1
   obtain ⟨su,r1,e1,hs,yu,r2,e2,hy,e3⟩:=h1
   have hts' : ts=#[t,u]:=by apply Array.ext'; simpa using hts
   have hargs : (args.map a.eval)=#[su,yu]:=by apply Array.ext'; rw [Array.toList_map,e1,e2,e3]
   refine (?_ : Out x H H' v (Sem.run P (do let d ← resolve a.eval { callee:=.builtin .append,args:=args,argTypes:=ts } ty; invoke d.target d.args) x.w))
   simp only [resolve,Sem.run_bind,Sem.run_pure,Result.andThen_ok,invoke]
   rw [hargs,hts']
   split at h
   ·exact Out.of_value (appendR_sound hT hr hs hy h)
   ·exact Out.of_value (appendF_sound hT hr hs hy h)
  ·cases h
 ·rename_i s d y
  simp only [Option.bind_eq_some_iff] at h
  obtain ⟨yv,hy,h⟩:=h
  exact Out.of_value (convertF_sound hT hr (aval_sound hG hl hy) h)
 ·rename_i t n c
  split at h
  ·rename_i nv cv hn hc
   exact Out.of_value (makeF_sound hT hr (aval_sound hG hl hn) (aval_sound hG hl hc) h)
  ·cases h
 ·cases h
end
end Go.Abs
namespace Go.Abs
def AX.conc : AX→Exit
 | .normal=>.normal
 | .exit id=>.exit id
 | .ret=>.ret
def CallSound (P : Program) (G : Nat→Option (List AV)) (f : FuncId) (args : List AV) (H : AH) (k : AV→AH→Prop) : Prop :=
 (∃ fn c,P.funcs[f]?=some fn∧fn.body=some c∧(fn.name == "runtime.NumGoroutine")=false) ∧
 ∀ (x : Cx) (vs : List Value),Rel x H→RL x args vs→GOk G x→Calls P f vs.toArray x.w (fun e w'=>∃ v r H' y,e=.returned v∧k r H'∧y.w=w'∧Mv x.N x H y H'∧Rel y H'∧R y r v)
theorem R.bool {x : Cx} {a : AV} {v : Value} (h : R x a v) (b : Bool) : v=.bool b↔a=.bool b:=by
 cases a<;>simp only [R] at h
 case bool=>subst h; simp
 case lit=>rcases h with ⟨⟨p,hpn,rfl⟩,_⟩|⟨_,_,_,_,_,rfl,_⟩<;>simp
 case own=>rcases h with ⟨_,⟨⟨p,hpn,rfl⟩,_⟩|⟨_,_,_,_,_,rfl,_⟩⟩<;>simp
 case lptr=>obtain ⟨_,_,_,rfl,_⟩:=h; simp
 case ref=>rcases h with ⟨_,⟨_,rfl,_⟩|⟨_,_,_,_,rfl,_⟩⟩<;>simp
 case fn=>obtain ⟨_,_,rfl,_⟩:=h; simp
 case agg=>obtain ⟨_,_,rfl,_⟩:=h; simp
 case iface=>obtain ⟨_,rfl,_⟩:=h; simp
 case tup=>obtain ⟨_,rfl,_⟩:=h; simp
 case ptr=>obtain ⟨_,_,rfl⟩:=h; simp
 case map=>obtain ⟨_,_,rfl⟩:=h; simp
 case any=>exact ⟨fun e=>absurd e (h b),fun e=>by cases e⟩
 all_goals (subst h; simp)
theorem RL.get_none {x : Cx} {as : List AV} {vs : List Value} (h : RL x as vs) {i : Nat} (hi : as[i]?=none) : vs[i]?=none:=by
 rw [List.getElem?_eq_none_iff] at hi ⊢
 rw [h.length]
 exact hi
theorem yielded_sound {x : Cx} {ops : Array Oper} {fr : List AV} {a : Act} (hl : RL x fr a.tmps.toList) : yielded ops a.tmps=ayielded ops fr:=by
 funext j
 unfold yielded ayielded
 cases hd : (ops[j]?).bind (·.dst) with
 | none=>rfl
 | some d =>
   simp only [Option.bind_some]
   rw [← Array.getElem?_toList]
   cases hf : fr[d]? with
   | none=>rw [hl.get_none hf]
   | some v =>
     obtain ⟨u,hu,hr⟩:=hl.get hf
     rw [hu]
     cases hb : u with
     | bool b =>
       have:=(hr.bool b).1 hb
       subst this
       rfl
     | _ =>
       cases v<;>first
        | rfl
        | (rename_i b; have:=(hr.bool b).2 rfl; rw [hb] at this; cases this)
theorem put_sound {x : Cx} {fr : List AV} {a : Act} (hl : RL x fr a.tmps.toList) (d : Option Tmp) {v : AV} {u : Value} (hv : R x v u) : RL x (aput fr d v) (a.put d u).tmps.toList:=by
 cases d with
 | none=>exact hl
 | some d =>
   show RL x (fr.set d v) (a.tmps.setIfInBounds d u).toList
   rw [Array.toList_setIfInBounds]
   exact hl.set d hv
theorem put_defers (a : Act) (d : Option Tmp) (u : Value) : (a.put d u).defers=a.defers:=by cases d<;>rfl
section
variable {P : Program} {T : TT} (hT : TyOk P T)
include hT
theorem evOps_sound {G : Nat→Option (List AV)} {C : ACall} (hC : ∀ f args H k,C f args H k→CallSound P G f args H k) {n : Nat} {ops : Array Oper} {K : List AV→AH→Prop} :
  ∀ (l : List Nat) (fr : List AV) (H : AH),evOps T G C ops K l fr H→∀ (x : Cx) (a : Act),Rel x H→n≤x.N→RL x fr a.tmps.toList→a.defers=[]→GOk G x →
  ∀ Qc : Exit→Act→World→Prop,(∀ fr' H' y a',K fr' H'→Mv n x H y H'→Rel y H'→RL y fr' a'.tmps.toList→a'.defers=[]→GOk G y→Qc .normal a' y.w)→wpOps P ops Qc l a x.w
 | [],fr,H,h,x,a,hr,hn,hl,hd,hG,Qc,hQ=>hQ fr H x a h (Mv.refl H hn) hr hl hd hG
 | i::rest,fr,H,h,x,a,hr,hn,hl,hd,hG,Qc,hQ=>by
   unfold evOps at h
   unfold wpOps
   split at h
   ·rename_i ho
    simp only [ho]
    exact evOps_sound hC rest fr H h x a hr hn hl hd hG Qc hQ
   ·rename_i o ho
    simp only [ho]
    rw [yielded_sound hl]
    split at h
    ·rename_i hw
     rw [if_pos hw]
     refine .inl ?_
     have hnext : ∀ (v : AV) (H' : AH) (u : Value) (y : Cx),evOps T G C ops K rest (aput fr o.dst v) H'→Mv x.N x H y H'→Rel y H'→R y v u→wpOps P ops Qc rest (a.put o.dst u) y.w:=by
      intro v H' u y he hm hr' hv
      have hk:=hm.keeps hr
      refine evOps_sound hC rest _ _ he y _ hr' (Nat.le_trans hn hm.N) (put_sound (RL.keeps hk _ _ hl) _ hv) (by rw [put_defers]; exact hd) (hG.mv hr hm) Qc ?_
      intro fr' H'' z a' hK hm' hr'' hl' hd' hG'
      exact hQ fr' H'' z a' hK ((hm.mono hn).trans hm') hr'' hl' hd' hG'
     have hres : ∀ r : Option (AV×AH),(∀ v H',r=some (v,H')→Out x H H' v ((execOp a.eval o).run P x.w))→evRes r (fun v H'=>evOps T G C ops K rest (aput fr o.dst v) H')→Oper.wp P o a x.w (wpOps P ops Qc rest) Qc:=by
      intro r hs h
      unfold evRes at h
      split at h
      ·rename_i v H' 
       obtain ⟨u,y,hrun,hm,hr',hk,hv⟩:=hs v H' rfl
       unfold Oper.wp
       rcases hrun with hrun|⟨hrun,rfl⟩
       ·rw [hrun,Oper.upon_value]
        exact hnext v H' u y h hm hr' hv
       ·rw [hrun,Oper.upon_skip]
        exact hnext v H' _ y h hm hr' hv
      ·exact h.elim
     unfold evOp at h
     split at h
     ·rename_i f args ts hop
      split at h
      ·rename_i g first caps as hf has
       have hfv:=aval_sound hG hl hf
       have hav:=args_sound hG hl has
       simp only [R] at hfv
       obtain ⟨fs,cs,hfe,hfs,hcs⟩:=hfv
       obtain ⟨⟨fn,c,h1,h2,h3⟩,hcall⟩:=hC _ _ _ _ h
       have hrun : (execOp a.eval o).run P x.w=.ok (.enter g (fs++args.toList.map a.eval++cs).toArray) x.w:=by
        unfold execOp
        rw [hop]
        have hname : ¬ (fn.name = "runtime.NumGoroutine"):=by simpa using h3
        simp [resolve,hfe,Deferred.ofValue,invoke,callFunc,h1,h2,hname]
       unfold Oper.wp
       rw [hrun,Oper.upon_enter]
       refine (hcall x _ hr ((hfs.append hav).append hcs) hG).mono ?_
       rintro e w' ⟨v,r,H',y,rfl,hk,rfl,hm,hr',hv⟩
       exact hnext r H' v y hk hm hr' hv
      ·exact h.elim
     ·rename_i t len parts hop0
      rw [← hop0] at h
      rcases h with h|⟨j,h⟩
      ·exact hres _ (fun v H' hv=>aop_sound hT hr hG hl o hv) h
      ·exact hres _ (fun v H' hv=>aalt_sound hT hr hG hl o hv) h
     ·rename_i args ts hop0
      rw [← hop0] at h
      rcases h with h|⟨j,h⟩
      ·exact hres _ (fun v H' hv=>aop_sound hT hr hG hl o hv) h
      ·exact hres _ (fun v H' hv=>aalt_sound hT hr hG hl o hv) h
     ·rename_i s1 d1 x1 hop0
      rw [← hop0] at h
      rcases h with h|⟨j,h⟩
      ·exact hres _ (fun v H' hv=>aop_sound hT hr hG hl o hv) h
      ·exact hres _ (fun v H' hv=>aalt_sound hT hr hG hl o hv) h
     ·rename_i t1 n1 c1 hop0
      rw [← hop0] at h
      rcases h with h|⟨j,h⟩
      ·exact hres _ (fun v H' hv=>aop_sound hT hr hG hl o hv) h
      ·exact hres _ (fun v H' hv=>aalt_sound hT hr hG hl o hv) h
     ·rename_i it hop0
      unfold Oper.wp
      cases hn : (aval G fr it).bind (anext H) with
      | none=>rw [hn] at h; exact h.elim
      | some r =>
        obtain ⟨L,p,info⟩:=r
        rw [hn] at h
        simp only [Option.bind_eq_some_iff] at hn
        obtain ⟨av,hav,hn⟩:=hn
        unfold anext at hn
        split at hn
        ·rename_i p'
         simp only [Option.map_eq_some_iff,Prod.mk.injEq] at hn
         obtain ⟨⟨L',info'⟩,hleft,rfl,rfl,rfl⟩:=hn
         have hexec : ∀ (v : Value) (w' : World),(Instr.next (a.eval it) false o.type).run P x.w=.ok v w'→(execOp a.eval o).run P x.w=.ok (.value v) w':=fun v w' hv=>by
          unfold execOp
          rw [hop0]
          simp [hv]
         rcases next_sound hr (aval_sound hG hl hav) hleft o.type with ⟨rfl,v,hrun,hv⟩|⟨e,l,since,seen,clock,he,rfl,u,y,hrun,hm,hr',hk,hv⟩
         ·rw [hexec _ _ hrun,Oper.upon_value]
          exact hnext _ H v x h (Mv.refl H (Nat.le_refl _)) hr hv
         ·rw [hexec _ _ hrun,Oper.upon_value]
          cases L' with
          | nil=>simp at he
          | cons e0 L'=>exact hnext _ _ u y (h e he) hm hr' hv
        ·cases hn
     ·rename_i rc name args ts hop
      split at h
      ·rename_i g rv as hf has
       simp only [Option.bind_eq_some_iff] at hf
       obtain ⟨ri,hri,hf⟩:=hf
       have hav:=args_sound hG hl has
       obtain ⟨⟨fn,c,h1,h2,h3⟩,hcall⟩:=hC _ _ _ _ h
       obtain ⟨t,u,q,hre,hmeth,hrq⟩:=invoke_sound hT hr (aval_sound hG hl hri) hf
       have hrun : (execOp a.eval o).run P x.w=.ok (.enter g (q::args.toList.map a.eval).toArray) x.w:=by
        unfold execOp
        rw [hop]
        have hname : ¬ (fn.name = "runtime.NumGoroutine"):=by simpa using h3
        have e0 : (#[Value.iface t u]++args.map a.eval)[0]?=some (Value.iface t u):=by
         rw [Array.getElem?_append_left (by simp)]
         rfl
        have e1 : (#[Value.iface t u]++args.map a.eval).extract 1 (#[Value.iface t u]++args.map a.eval).size=args.map a.eval:=by
         apply Array.toList_inj.1
         simp [List.take_of_length_le]
        have e2 : (#[q]++args.map a.eval)=(q::args.toList.map a.eval).toArray:=by
         apply Array.toList_inj.1
         simp
        simp only [resolve,invoke,hre,Sem.run_bind,Sem.run_pure,Result.andThen_ok,e0,e1,callMethod]
        simp [hmeth,callFunc,h1,h2,hname]
       unfold Oper.wp
       rw [hrun,Oper.upon_enter]
       refine (hcall x _ hr (by simp only [RL]; exact ⟨_,_,rfl,hrq,hav⟩) hG).mono ?_
       rintro e w' ⟨v,r,H',y,rfl,hk,rfl,hm,hr',hv⟩
       exact hnext r H' v y hk hm hr' hv
      ·exact h.elim
     ·exact hres _ (fun v H' hv=>aop_sound hT hr hG hl o hv) h
    ·rename_i hw
     rw [if_neg hw]
     refine evOps_sound hC rest _ _ h x _ hr hn (put_sound hl _ (v:=.tup []) (u:=undef) (by simp only [R]; exact ⟨[],rfl,rfl⟩)) (by rw [put_defers]; exact hd) hG Qc hQ
def LoopWp (P : Program) (c : Code) (Q : Exit→Act→World→Prop) (a : Act) (w : World) : Prop :=
 ∀ (b : Frame) (k : List Item) (cs : List Frame),∃ e a' w',Q e a' w'∧Arrives P (lone (b.at a (.code c::.inLoop c::k)) cs w) b k cs e a' w'
omit hT in
theorem LoopWp.wp {c : Code} {Q : Exit→Act→World→Prop} {a : Act} {w : World} (h : LoopWp P c Q a w) : (Code.loop c).wp P Q a w:=by
 intro b k cs
 obtain ⟨e,a',w',hq,harr⟩:=h b k cs
 exact ⟨e,a',w',hq,.of_steps (.one step_loop) harr⟩
omit hT in
theorem LoopWp.round {c : Code} {Q : Exit→Act→World→Prop} {a : Act} {w : World} (h : c.wp P (Exit.then (LoopWp P c Q) Q) a w) : LoopWp P c Q a w:=by
 intro b k cs
 obtain ⟨e,a₁,w₁,hq,harr⟩:=h b (.inLoop c::k) cs
 cases e with
 | normal =>
   obtain ⟨e₂,a₂,w₂,hq₂,harr₂⟩:=hq b k cs
   exact ⟨e₂,a₂,w₂,hq₂,.of_steps (Steps.trans harr (.one step_inLoop)) harr₂⟩
 | exit id=>exact ⟨_,a₁,w₁,hq,.pass (x:=.inLoop c) rfl (fun _ _=>.inl (by simp)) harr⟩
 | goto l=>exact ⟨_,a₁,w₁,hq,.pass (x:=.inLoop c) rfl (fun _ _=>.inl (by simp)) harr⟩
 | ret=>exact ⟨_,a₁,w₁,hq,.pass (x:=.inLoop c) rfl (fun _ _=>.inl (by simp)) harr⟩
 | panic ch=>exact ⟨_,a₁,w₁,hq,.pass (x:=.inLoop c) rfl (fun _ _=>.inl (by simp)) harr⟩
 | outgrown=>exact ⟨_,a₁,w₁,hq,.pass (x:=.inLoop c) rfl (fun _ _=>.inl (by simp)) harr⟩
theorem ev_sound {G : Nat→Option (List AV)} {C : ACall} (hC : ∀ f args H k,C f args H k→CallSound P G f args H k) {n : Nat} :
  ∀ (c : Code) (fr : List AV) (H : AH) (Q : APost),ev T G (P.follows .mixedOrders) C n c fr H Q→∀ (x : Cx) (a : Act),Rel x H→n≤x.N→RL x fr a.tmps.toList→a.defers=[]→GOk G x →
  ∀ Qc : Exit→Act→World→Prop,(∀ e fr' H' y a',Q e fr' H'→Mv n x H y H'→Rel y H'→RL y fr' a'.tmps.toList→a'.defers=[]→GOk G y→Qc e.conc a' y.w)→c.wp P Qc a x.w:=by
 intro c
 induction c with
 | skip=>intro fr H Q h x a hr hn hl hd hG Qc hQ; exact wp_skip (hQ .normal _ _ x a h (Mv.refl H hn) hr hl hd hG)
 | region id ops d =>
   intro fr H Q h x a hr hn hl hd hG Qc hQ
   unfold ev at h
   cases d with
   | false =>
     simp only [Bool.false_eq_true,if_false] at h
     exact wp_region (evOps_sound hT hC _ _ _ h x a hr hn hl hd hG Qc (fun fr' H' y a' hk=>hQ .normal fr' H' y a' hk))
   | true =>
     simp only [if_true] at h
     refine wp_region_draw (fun t=>?_)
     show wpOps P ops Qc _ a x.w.drew
     have hr' : Rel { x with w:=x.w.drew } H:=hr.drawn rfl
     have hm : Mv n x H { x with w:=x.w.drew } H:=(Mv.drawn (x:=x) (w:=x.w.drew) rfl rfl rfl rfl).mono hn
     exact evOps_sound hT hC _ _ _ (h t) { x with w:=x.w.drew } a hr' hn (RL.keeps (Keeps.drawn x (w:=x.w.drew) rfl) _ _ hl) hd (hG.mv hr hm) Qc (fun fr' H' y a' ⟨fr2,H2,hvs,hk⟩ hm' hr'' hl'' hd'' hG''=>by
      obtain ⟨z,ez,hm3,hr3,hl3⟩:=hvs y _ hr'' hm'.N hl''
      rw [← ez]
      exact hQ .normal fr2 H2 z a' hk (hm.trans (hm'.trans hm3)) hr3 hl3 hd'' (hG''.mv hr'' hm3))
 | seq c d ihc ihd =>
   intro fr H Q h x a hr hn hl hd hG Qc hQ
   unfold ev at h
   refine wp_seq (ihc _ _ _ h x a hr hn hl hd hG _ ?_)
   intro e fr' H' y a' he hm hr' hl' hd' hG'
   cases e with
   | normal =>
     obtain ⟨fr2,H2,hvs,he⟩:=he
     obtain ⟨z,ez,hm2,hr2,hl2⟩:=hvs y _ hr' hm.N hl'
     rw [← ez]
     exact ihd _ _ _ he z a' hr2 hm2.N hl2 hd' (hG'.mv hr' hm2) Qc (fun e fr'' H'' z' a'' hq hm'=>hQ e fr'' H'' z' a'' hq (hm.trans (hm2.trans hm')))
   | exit id=>exact hQ _ _ _ y a' he hm hr' hl' hd' hG'
   | ret=>exact hQ _ _ _ y a' he hm hr' hl' hd' hG'
 | cond o c d ihc ihd =>
   intro fr H Q h x a hr hn hl hd hG Qc hQ
   unfold ev at h
   split at h
   ·rename_i ho
    have:=aval_sound hG hl ho
    simp only [R] at this
    exact wp_cond_true this (ihc _ _ _ h x a hr hn hl hd hG Qc hQ)
   ·rename_i ho
    have:=aval_sound hG hl ho
    simp only [R] at this
    exact wp_cond_false this (ihd _ _ _ h x a hr hn hl hd hG Qc hQ)
   ·exact h.elim
 | block id c ih =>
   intro fr H Q h x a hr hn hl hd hG Qc hQ
   unfold ev at h
   refine wp_block (ih _ _ _ h x a hr hn hl hd hG _ ?_)
   intro e fr' H' y a' he hm hr' hl' hd' hG'
   cases e with
   | normal=>exact hQ .normal _ _ y a' he hm hr' hl' hd' hG'
   | ret=>exact hQ .ret _ _ y a' he hm hr' hl' hd' hG'
   | exit i =>
     simp only at he
     show (if i=id then Qc .normal a' y.w else Qc (.exit i) a' y.w)
     split at he
     ·rename_i e1
      rw [if_pos e1]
      exact hQ .normal _ _ y a' he hm hr' hl' hd' hG'
     ·rename_i e1
      rw [if_neg e1]
      exact hQ (.exit i) _ _ y a' he hm hr' hl' hd' hG'
 | loop c ih =>
   intro fr H Q h x a hr hn hl hd hG Qc hQ
   unfold ev at h
   refine LoopWp.wp ?_
   refine h (fun fr H=>∀ (x : Cx) (a : Act),Rel x H→n≤x.N→RL x fr a.tmps.toList→a.defers=[]→GOk G x →
    ∀ Qc : Exit→Act→World→Prop,(∀ e fr' H' y a',Q e fr' H'→Mv n x H y H'→Rel y H'→RL y fr' a'.tmps.toList→a'.defers=[]→GOk G y→Qc e.conc a' y.w)→LoopWp P c Qc a x.w) ?_ ?_ x a hr hn hl hd hG Qc hQ
   ·intro fr H hB x a hr hn hl hd hG Qc hQ
    refine LoopWp.round (ih _ _ _ hB x a hr hn hl hd hG _ ?_)
    intro e fr' H' y a' he hm hr' hl' hd' hG'
    cases e with
    | normal=>exact he y a' hr' hm.N hl' hd' hG' Qc (fun e fr'' H'' z a'' hq hm'=>hQ e fr'' H'' z a'' hq (hm.trans hm'))
    | exit id=>exact hQ _ _ _ y a' he hm hr' hl' hd' hG'
    | ret=>exact hQ _ _ _ y a' he hm hr' hl' hd' hG'
   ·intro fr H fr' H' hvs hI x a hr hn hl hd hG Qc hQ
    obtain ⟨y,ey,hm,hr',hl'⟩:=hvs x _ hr hn hl
    have:=hI y a hr' hm.N hl' hd (hG.mv hr hm) Qc (fun e fr'' H'' z a'' hq hm'=>hQ e fr'' H'' z a'' hq (hm.trans hm'))
    rw [ey] at this
    exact this
 | rangeFunc f ps c d _ _=>intro fr H Q h; exact h.elim
 | exit id=>intro fr H Q h x a hr hn hl hd hG Qc hQ; exact wp_exit (hQ (.exit id) _ _ x a h (Mv.refl H hn) hr hl hd hG)
 | scope c ih =>
   intro fr H Q h x a hr hn hl hd hG Qc hQ
   unfold ev at h
   refine wp_scope_straight (ih _ _ _ h x a hr hn hl hd hG _ ?_)
   intro e fr' H' y a' he hm hr' hl' hd' hG'
   have:=hQ e fr' H' y a' he hm hr' hl' hd' hG'
   cases e<;>exact this
 | label l=>intro fr H Q h x a hr hn hl hd hG Qc hQ; exact wp_label (hQ .normal _ _ x a h (Mv.refl H hn) hr hl hd hG)
 | goto l=>intro fr H Q h; exact h.elim
 | ret=>intro fr H Q h x a hr hn hl hd hG Qc hQ; exact wp_ret (hQ .ret _ _ x a h (Mv.refl H hn) hr hl hd hG)
 | refuse w=>intro fr H Q h; exact h.elim
def cres (tmps : Array Value) : ResultVar→Sem Value
 | .tmp t=>pure (tmps.getD t undef)
 | .cell q t=>do loadVar t (← asAddr (tmps.getD q undef))
omit hT in
theorem results_eq (fn : Func) (tmps : Array Value) : results fn tmps=(fn.results.mapM (cres tmps) >>= fun vs=>pure (if h : vs.size=1 then vs[0] else .tuple vs)):=by
 rfl
theorem results_sound {x : Cx} {H : AH} {fr : List AV} {a : Act} (hr : Rel x H) (hl : RL x fr a.tmps.toList) {fn : Func} {r : AV} (h : aresults T fn fr H=some r) : ∃ v,(results fn a.tmps).run P x.w=.ok v x.w∧R x r v:=by
 have hget : ∀ t,R x (fr.getD t (.tup [])) (a.tmps.getD t undef):=fun t=>by
  have:=aval_sound (G:=fun _=>none) (x:=x) (a:=a) (fun g cs hg=>by cases hg) hl (o:=.tmp t) (v:=fr.getD t (.tup [])) rfl
  exact this
 have key1 : ∀ c v,ares T fr H c=some v→∃ u,(cres a.tmps c).run P x.w=.ok u x.w∧R x v u:=by
  intro c v hv
  cases c with
  | tmp t =>
    simp only [ares,Option.some.injEq] at hv
    subst hv
    exact ⟨_,rfl,hget t⟩
  | cell q t =>
    simp only [ares] at hv
    have hg:=hget q
    obtain ⟨u,hu,hru⟩:=aload_sound hT hr hg hv
    refine ⟨u,?_,hru⟩
    generalize fr.getD q (.tup [])=p at hv hg
    unfold cres
    dsimp only
    cases p<;>simp only [aload] at hv<;>first|(cases hv; done)|skip
    ·simp only [R] at hg
     rw [hg.2.2] at hu ⊢
     simpa [Instr.loadAt,Instr.sureAddr,asAddr] using hu
    ·simp only [R] at hg
     obtain ⟨b,o,vs,hg,_⟩:=hg
     rw [hg] at hu ⊢
     simpa [Instr.loadAt,Instr.sureAddr,asAddr] using hu
 have key : ∀ (l : List ResultVar) (rs : List AV),l.mapM (ares T fr H)=some rs→∃ vs,(l.mapM (cres a.tmps)).run P x.w=.ok vs x.w∧RL x rs vs:=by
  intro l
  induction l with
  | nil=>intro rs h; simp at h; subst h; exact ⟨[],by simp,by simp [RL]⟩
  | cons c l ih =>
    intro rs h
    simp only [List.mapM_cons,Option.bind_eq_bind,Option.bind_eq_some_iff,Option.pure_def,Option.some.injEq] at h
    obtain ⟨v,hv,r',hr',rfl⟩:=h
    obtain ⟨vs,h1,h2⟩:=ih _ hr'
    obtain ⟨u,h3,h4⟩:=key1 c v hv
    exact ⟨u::vs,by simp [List.mapM_cons,h1,h3],⟨_,_,rfl,h4,h2⟩⟩
 unfold aresults at h
 simp only [Option.map_eq_some_iff] at h
 obtain ⟨rs,hrs,rfl⟩:=h
 obtain ⟨vs,h1,h2⟩:=key _ _ hrs
 rw [results_eq]
 have h1' : (fn.results.mapM (cres a.tmps)).run P x.w=.ok vs.toArray x.w:=by
  rw [Array.mapM_eq_mapM_toList]
  simp [h1]
 simp only [Sem.run_bind,h1',Result.andThen_ok,Sem.run_pure]
 refine ⟨_,rfl,?_⟩
 have hlen:=h2.length
 match rs,vs,h2,hlen with
 | [],[],_,_=>simp only [one,R]; exact ⟨[],by simp,rfl⟩
 | [r],[v],h2,_ =>
   simp only [RL] at h2
   obtain ⟨_,_,e,h3,rfl⟩:=h2
   cases e
   simpa [one] using h3
 | r::r'::rs,v::v'::vs,h2,_ =>
   simp only [one,R]
   exact ⟨v::v'::vs,by simp,h2⟩
theorem body_sound {G : Nat→Option (List AV)} {C : ACall} (hC : ∀ f args H k,C f args H k→CallSound P G f args H k) {f : FuncId} {args : List AV} {H : AH} {k : AV→AH→Prop} (hb : body P T G C f args H k) : CallSound P G f args H k:=by
 obtain ⟨fn,c,h1,h2,h3,h4⟩:=hb
 refine ⟨⟨fn,c,h1,h2,h3⟩,fun x vs hr hl hG=>?_⟩
 refine calls_of_wp h1 h2 ?_
 have hlen:=hl.length
 have hl' : RL x (args++List.replicate (fn.ntmps - args.length) (.tup [])) (vs.toArray++Array.replicate (fn.ntmps - vs.toArray.size) undef).toList:=by
  rw [Array.toList_append,Array.toList_replicate]
  simp only [List.size_toArray,hlen]
  exact hl.append (RL.replicate (by simp only [R]; exact ⟨[],rfl,rfl⟩) _)
 refine ev_sound hT hC c _ H _ h4 x ⟨_,[]⟩ hr (by rw [hr.N]; exact Nat.le_refl _) hl' rfl hG _ ?_
 intro e fr H' y a' he hm hr' hl'' hd' hG'
 obtain ⟨hex,r,hres,r',H'',hvs,hk⟩:=he
 obtain ⟨v,hv1,hv2⟩:=results_sound hT hr' hl'' hres
 obtain ⟨z,ez,hm',hr'',hl3⟩:=hvs y [v] hr' (by rw [← hr.N] at hm ⊢; exact hm.N) ⟨v,[],rfl,hv2,rfl⟩
 have hv3 : R z r' v:=by
  simp only [RL] at hl3
  obtain ⟨_,_,e,h3,rfl⟩:=hl3
  cases e
  exact h3
 have hfin : ∃ v,(results fn a'.tmps).run P y.w=.ok v y.w∧∃ v' r H' z,Ending.returned v=.returned v'∧k r H'∧z.w=y.w∧Mv x.N x H z H'∧Rel z H'∧R z r v' :=
  ⟨v,hv1,v,r',H'',z,rfl,hk,ez,by rw [hr.N]; exact hm.trans hm',hr'',hv3⟩
 cases e with
 | normal=>exact ⟨hd',hfin⟩
 | ret=>exact ⟨hd',hfin⟩
 | exit id=>exact hex.elim
end
theorem CallSound.mono {P : Program} {G : Nat→Option (List AV)} {f : FuncId} {args : List AV} {H : AH} {k k' : AV→AH→Prop} (hk : ∀ r H,k r H→k' r H) (h : CallSound P G f args H k) : CallSound P G f args H k' :=
 ⟨h.1,fun x vs hr hl hG=>(h.2 x vs hr hl hG).mono fun _ _ ⟨v,r,H',y,h1,h2,h3⟩=>⟨v,r,H',y,h1,hk _ _ h2,h3⟩⟩
def EvCall (P : Program) (T : TT) (G : Nat→Option (List AV)) : ACall:=fun f args H k=>(∃ v H',k v H')∧(TyOk P T→CallSound P G f args H k)
theorem EvCall.mono {P : Program} {T : TT} {G : Nat→Option (List AV)} {f : FuncId} {args : List AV} {H : AH} {k k' : AV→AH→Prop} (hk : ∀ r H,k r H→k' r H) (h : EvCall P T G f args H k) : EvCall P T G f args H k' :=
 ⟨h.1.elim fun v h1=>h1.elim fun H' h2=>⟨v,H',hk _ _ h2⟩,fun hT=>(h.2 hT).mono hk⟩
theorem call_ends {P : Program} {T : TT} {G : Nat→Option (List AV)} : Ends (EvCall P T G):=fun _ _ _ _ h=>h.1
theorem EvCall.intro {P : Program} {T : TT} {G : Nat→Option (List AV)} {f : FuncId} {args : List AV} {H : AH} {k : AV→AH→Prop} (h : body P T G (EvCall P T G) f args H k) : EvCall P T G f args H k:=by
 refine ⟨?_,fun hT=>body_sound hT (fun f args H k h=>h.2 hT) h⟩
 obtain ⟨fn,c,h1,h2,h3,h4⟩:=h
 obtain ⟨e,fr,H',h5⟩:=ev_ends call_ends _ _ _ _ h4
 obtain ⟨_,r,_,r',H'',_,h6⟩:=h5
 exact ⟨_,_,h6⟩
theorem call_sound {P : Program} {T : TT} (hT : TyOk P T) {G : Nat→Option (List AV)} {f : FuncId} {args : List AV} {H : AH} {k : AV→AH→Prop} (h : EvCall P T G f args H k) : CallSound P G f args H k:=h.2 hT
end Go.Abs
namespace Go.Abs
def Cx.start (w : World) : Cx:={ at_:=fun _=>(0,0),ver:=fun _=>0,rl:=fun _=>false,F:=fun k _=>k < w.heap.size,N:=0,w:=w }
theorem Rel.start (w : World) : Rel (Cx.start w) [] :=
 ⟨rfl,fun l b h=>by simp at h,fun l m ⟨b,hb,_⟩=>by simp at hb,fun l b hb=>by simp at hb,fun k _ h=>h⟩
theorem law_calls {P : Program} {T : TT} (hT : TyOk P T) {G : Nat→Option (List AV)} {f : FuncId} {args : List AV} {b : Bool} (h : EvCall P T G f args [] (fun r _=>r=.bool b)) {w : World} {vs : List Value} (hl : RL (Cx.start w) args vs) (hG : GOk G (Cx.start w)) :
  Calls P f vs.toArray w (fun e w'=>e=.returned (.bool b)∧RowKit.Below w.heap.size w w'):=by
 refine ((call_sound hT h).2 (Cx.start w) vs (Rel.start w) hl hG).mono ?_
 rintro e w' ⟨v,r,H',y,rfl,rfl,rfl,hm,hr,hv⟩
 simp only [R] at hv
 refine ⟨by rw [hv],hm.os,hm.tape,hm.output,hm.size,fun k hk=>hm.frame k hk ?_⟩
 rintro ⟨l,⟨b,hb,_⟩,_⟩
 simp at hb
mutual
def AV.low (n : Nat) : AV→Bool
 | .ptr l _|.ref _ _ l _ _ _|.map l=>decide (l < n)
 | .own l _ _ cs _ _=>decide (l < n)&&lows n cs
 | .lptr cs _|.lit _ _ cs _|.agg cs|.tup cs=>lows n cs
 | .fn _ first caps=>lows n first&&lows n caps
 | .iface _ v=>v.low n
 | _=>true
def lows (n : Nat) : List AV→Bool
 | []=>true
 | a::as=>a.low n&&lows n as
end
def AB.low (n : Nat) : AB→Bool
 | .cells cs=>lows n cs
 | .map es _ _=>lows n (es.map (·.1))&&lows n (es.map (·.2))
 | .iter src _ _ _=>match src with
   | some l=>decide (l < n)
   | none=>true
 | .room _ _=>true
 | .dead=>true
def WF (H : AH) : Prop:=∀ b∈H,b.low H.length=true
mutual
theorem R.cut {x : Cx} {n : Nat} : ∀ (a : AV) (v : Value),a.low n=true→R x a v→R { x with N:=n } a v
 | .bool _,_,_,hr=>by simpa [R] using hr
 | .int _ _,_,_,hr=>by simpa [R] using hr
 | .str _,_,_,hr=>by simpa [R] using hr
 | .nilptr,_,_,hr=>by simpa [R] using hr
 | .ptr l off,v,h,hr=>by
   simp only [R,AV.low,decide_eq_true_eq] at *
   exact ⟨h,hr.2⟩
 | .lptr cs off,v,h,hr=>by
   simp only [R,AV.low] at *
   obtain ⟨b,o,vs,e,hf,hl,hk,hc⟩:=hr
   exact ⟨b,o,vs,e,hf,RL.cut cs vs h hl,hk,hc⟩
 | .lit nl ex cs len,v,h,hr=>by
   simp only [R,AV.low] at *
   rcases hr with hr|⟨hn,b,o,cap,vs,e,h1,h2,h3,hl,hk,hf,hc⟩
   ·exact .inl hr
   ·exact .inr ⟨hn,b,o,cap,vs,e,h1,h2,h3,RL.cut cs vs h hl,hk,hf,hc⟩
 | .ref ex nl l off len sz,v,h,hr=>by
   simp only [R,AV.low,decide_eq_true_eq] at *
   exact ⟨⟨h,hr.1.2⟩,hr.2⟩
 | .fn f first caps,v,h,hr=>by
   simp only [R,AV.low,Bool.and_eq_true] at *
   obtain ⟨fs,cs,e,h1,h2⟩:=hr
   exact ⟨fs,cs,e,RL.cut _ _ h.1 h1,RL.cut _ _ h.2 h2⟩
 | .nilfn,_,_,hr=>by simpa [R] using hr
 | .map l,v,h,hr=>by
   simp only [R,AV.low,decide_eq_true_eq] at *
   exact ⟨h,hr.2⟩
 | .nilmap,_,_,hr=>by simpa [R] using hr
 | .iface t a,v,h,hr=>by
   simp only [R,AV.low] at *
   obtain ⟨u,e,hu⟩:=hr
   exact ⟨u,e,R.cut a u h hu⟩
 | .nilif,_,_,hr=>by simpa [R] using hr
 | .agg cs,v,h,hr=>by
   simp only [R,AV.low] at *
   obtain ⟨hk,vs,e,hl⟩:=hr
   exact ⟨hk,vs,e,RL.cut cs vs h hl⟩
 | .tup cs,v,h,hr=>by
   simp only [R,AV.low] at *
   obtain ⟨vs,e,hl⟩:=hr
   exact ⟨vs,e,RL.cut cs vs h hl⟩
 | .own l ver nl cs len sz,v,h,hr=>by
   simp only [R,AV.low,Bool.and_eq_true,decide_eq_true_eq] at *
   obtain ⟨⟨_,h0,hv,hs⟩,hr⟩:=hr
   refine ⟨⟨h.1,h0,hv,hs⟩,?_⟩
   rcases hr with hr|⟨hn,b,o,cap,vs,e,h1,h2,h3,h4⟩
   ·exact .inl hr
   ·exact .inr ⟨hn,b,o,cap,vs,e,h1,h2,RL.cut cs vs h.2 h3,h4⟩
 | .any,_,_,hr=>by simpa [R] using hr
theorem RL.cut {x : Cx} {n : Nat} : ∀ (as : List AV) (vs : List Value),lows n as=true→RL x as vs→RL { x with N:=n } as vs
 | [],_,_,hr=>by simpa [RL] using hr
 | a::as,vs,h,hr=>by
   simp only [RL,lows,Bool.and_eq_true] at *
   obtain ⟨v,r,e,h1,h2⟩:=hr
   exact ⟨v,r,e,R.cut a v h.1 h1,RL.cut as r h.2 h2⟩
end
theorem HoldsB.cut {x : Cx} {n l : Nat} : ∀ {b : AB},b.low n=true→HoldsB x l b→HoldsB { x with N:=n } l b
 | .cells cs,h,hb=>by
   obtain ⟨h0,c,t,fz,vs,h1,h2,h3,h4,h5,h6⟩:=hb
   exact ⟨h0,c,t,fz,vs,h1,h2,RL.cut _ _ h h3,h4,h5,h6⟩
 | .map es bs clock,h,hb=>by
   simp only [AB.low,Bool.and_eq_true] at h
   obtain ⟨h0,c,h1,h2,h3,h4⟩:=hb
   exact ⟨h0,c,h1,RL.cut _ _ h.1 h2,RL.cut _ _ h.2 h3,h4⟩
 | .iter src since seen last,h,hb=>by
   obtain ⟨h0,h00,h1,h2⟩:=hb
   refine ⟨h0,h00,fun l hl=>⟨?_,(h1 l hl).2⟩,h2⟩
   subst hl
   simpa [AB.low] using h
 | .room _ _,_,hb=>hb
 | .dead,_,_=>trivial
theorem VS.drop {n : Nat} {fr : List AV} {H G : AH} (hn : n≤H.length) (hw : WF H) (hf : lows H.length fr=true) : VS n fr (H++G) fr H:=by
 intro x vs hr hx hl
 have hlive : ∀ l,Live H l→Live (H++G) l:=fun l ⟨b,hb,h⟩=>⟨b,by rw [List.getElem?_append_left (List.getElem?_eq_some_iff.1 hb).1]; exact hb,h⟩
 have hget : ∀ l b,H[l]?=some b→(H++G)[l]?=some b:=fun l b hb=>by rw [List.getElem?_append_left (List.getElem?_eq_some_iff.1 hb).1]; exact hb
 refine ⟨{ x with N:=H.length },rfl,{ Mv.refl (x:=x) (n:=n) (H++G) hx with N:=hn,own:=fun k ⟨l,h1,h2⟩=>.inl ⟨l,hlive l h1,h2⟩ },⟨rfl,fun l b hb=>HoldsB.cut (hw b (List.mem_of_getElem? hb)) (hr.block l b (hget l b hb)),fun l m h1 h2=>hr.inj l m (hlive l h1) (hlive m h2),fun l b hb=>hr.notF l b (hget l b hb),hr.Flt⟩,RL.cut _ _ hf hl⟩
def Imp (a b : AV) : Prop:=∀ (x : Cx) (v : Value),R x a v→R x b v
theorem Imp.rfl {a : AV} : Imp a a:=fun _ _ h=>h
theorem Imp.any {a : AV} (h : ∀ b,a≠.bool b) : Imp a .any:=fun _ _ hr b e=>h b ((hr.bool b).1 e)
def ImpL : List AV→List AV→Prop
 | [],[]=>True
 | a::as,b::bs=>Imp a b∧ImpL as bs
 | _,_=>False
theorem ImpL.rl : ∀ {as bs : List AV},ImpL as bs→∀ {x : Cx} {vs : List Value},RL x as vs→RL x bs vs
 | [],[],_,_,_,h=>h
 | [],_::_,h,_,_,_=>h.elim
 | _::_,[],h,_,_,_=>h.elim
 | a::as,b::bs,h,x,vs,hr=>by
   simp only [RL] at *
   obtain ⟨v,r,e,h1,h2⟩:=hr
   exact ⟨v,r,e,h.1 x v h1,ImpL.rl h.2 h2⟩
theorem ImpL.len : ∀ {as bs : List AV},ImpL as bs→as.length=bs.length
 | [],[],_=>by simp
 | [],_::_,h=>h.elim
 | _::_,[],h=>h.elim
 | _::_,_::_,h=>by simp [ImpL.len h.2]
def ImpB : AB→AB→Prop
 | .cells as,.cells bs=>ImpL as bs∧∀ b∈bs,b.isCell=true
 | .room _ _,.dead=>True
 | .cells _,.dead=>True
 | a,b=>a=b
def ImpH : AH→AH→Prop
 | [],[]=>True
 | a::as,b::bs=>(a=b∨ImpB a b)∧ImpH as bs
 | _,_=>False
theorem ImpH.get : ∀ {H G : AH},ImpH H G→H.length=G.length∧∀ (l : Nat) (b : AB),G[l]?=some b→∃ a,H[l]?=some a∧(a=b∨ImpB a b)
 | [],[],_=>⟨Eq.refl _,fun l b h=>by simp at h⟩
 | [],_::_,h=>h.elim
 | _::_,[],h=>h.elim
 | a::as,c::cs,h=>by
   obtain ⟨h1,h2⟩:=ImpH.get h.2
   refine ⟨by simp [h1],fun l b hb=>?_⟩
   cases l with
   | zero=>simp at hb; subst hb; exact ⟨a,Eq.refl _,h.1⟩
   | succ l=>simpa using h2 l b (by simpa using hb)
theorem ImpB.holds {x : Cx} {l : Nat} {a b : AB} (h : a=b∨ImpB a b) (ha : HoldsB x l a) : HoldsB x l b:=by
 rcases h with rfl|h
 ·exact ha
 ·cases a<;>cases b<;>simp only [ImpB] at h<;>first
   | (cases h; done)
   | trivial
   | (cases h; exact ha)
   | (obtain ⟨g0,c,t,fz,vs,g1,g2,g3,g4,g5,g6⟩:=ha
      exact ⟨g0,c,t,fz,vs,g1,g2,h.1.rl g3,by rw [← h.1.len]; exact g4,g5,h.2⟩)
theorem ImpB.live {a b : AB} (h : a=b∨ImpB a b) (hb : b.live=true) : a.live=true∧a.isRoom=b.isRoom:=by
 rcases h with rfl|h
 ·exact ⟨hb,Eq.refl _⟩
 ·cases a<;>cases b<;>simp only [ImpB] at h<;>first
   | (cases h; done)
   | (cases hb; done)
   | (cases h; exact ⟨hb,Eq.refl _⟩)
   | exact ⟨Eq.refl _,Eq.refl _⟩
theorem VS.imp {n : Nat} {fr fr' : List AV} {H H' : AH} (h1 : ImpL fr fr') (h2 : ImpH H H') : VS n fr H fr' H':=by
 intro x vs hr hx hl
 obtain ⟨g1,g2⟩:=h2.get
 have hlive : ∀ l,Live H' l→Live H l:=fun l ⟨b,hb,hbl⟩=>by
  obtain ⟨a,ha,h⟩:=g2 l b hb
  exact ⟨a,ha,(ImpB.live h hbl).1⟩
 refine ⟨x,Eq.refl _,{ Mv.refl (x:=x) (n:=n) H hx with own:=fun k ⟨l,h,e⟩=>.inl ⟨l,hlive l h,e⟩ },⟨by rw [hr.N,g1],fun l b hb=>?_,fun l m a b=>hr.inj l m (hlive l a) (hlive m b),fun l b hb hbl m hf=>?_,hr.Flt⟩,h1.rl hl⟩
 ·obtain ⟨a,ha,h⟩:=g2 l b hb
  exact ImpB.holds h (hr.block l a ha)
 ·obtain ⟨a,ha,h⟩:=g2 l b hb
  have:=ImpB.live h hbl
  rw [← this.2]
  exact hr.notF l a ha this.1 m hf
end Go.Abs
namespace Go.Abs
def closedB : AV→Value→Bool
 | .bool a,.bool b=>a==b
 | .int k n,.int k' m=>k==k'&&n==m
 | .str s,.string b=>s==b.data.toList
 | .nilptr,.pointer none=>true
 | .lit true _ [] 0,.slice none 0 0=>true
 | .nilfn,.nilFunc=>true
 | .nilmap,.map none=>true
 | .nilif,.nilIface=>true
 | _,_=>false
def closedsB : List AV→List Value→Bool
 | [],[]=>true
 | a::as,v::vs=>closedB a v&&closedsB as vs
 | _,_=>false
theorem closed_of_B {a : AV} {v : Value} (h : closedB a v=true) : closed a=some v:=by
 unfold closedB at h
 split at h<;>first
  | (cases h; done)
  | (simp only [Bool.and_eq_true,beq_iff_eq] at h; first|(obtain ⟨rfl,rfl⟩:=h; rfl)|(subst h; rfl))
  | rfl
theorem closeds_of_B : ∀ {as : List AV} {vs : List Value},closedsB as vs=true→as.mapM closed=some vs
 | [],[],_=>rfl
 | [],_::_,h=>by simp [closedsB] at h
 | _::_,[],h=>by simp [closedsB] at h
 | a::as,v::vs,h=>by
   simp only [closedsB,Bool.and_eq_true] at h
   simp [List.mapM_cons,closed_of_B h.1,closeds_of_B h.2]
def descB (P : Program) (t : TypeId) (a : AD) : Bool :=
 match a,P.underlying t with
 | .bool,some .bool=>true
 | .int k,some (.int k')=>k==k'
 | .str,some .string=>true
 | .ptr e,some (.pointer e')=>e==e'
 | .slice e,some (.slice e')=>e==e'
 | .arr n e,some (.array n' e')=>n==n'&&e==e'
 | .struct fs,some (.struct fields)=>fs==fields.toList.map fun f=>(f.name == "_",f.offset,f.type)
 | .map k e,some (.map k' e')=>k==k'&&e==e'
 | .func,some (.func _ _ _)=>true
 | .iface,some (.interface _)=>true
 | _,_=>false
theorem desc_of_B {P : Program} {t : TypeId} {a : AD} (h : descB P t a=true) : DescOk P t a:=by
 unfold descB at h
 split at h<;>(try simp only [Bool.and_eq_true,beq_iff_eq] at h)<;>first
  | (cases h; done)
  | (rename_i hu; exact hu)
  | (rename_i hu; subst h; exact hu)
  | (rename_i hu; obtain ⟨rfl,rfl⟩:=h; exact hu)
  | (rename_i hu; exact ⟨_,hu,h⟩)
  | (rename_i hu; exact ⟨_,_,_,hu⟩)
  | (rename_i hu; exact ⟨_,hu⟩)
def methB (P : Program) (t : TypeId) (m : String×FuncId×Bool) : Bool :=
 match P.info? t with
 | some i=>match i.methods.find? (·.name==m.1) with
   | some row=>row.path.isEmpty&&(match row.func with
     | some (g,p)=>g==m.2.1&&(match m.2.2 with
       | true=>isPtrDesc (P.underlying t)&&!p
       | false=>isPtrDesc (P.underlying t)==p)
     | none=>false)
   | none=>false
 | none=>false
theorem meth_of_B {P : Program} {t : TypeId} {m : String×FuncId×Bool} (h : methB P t m=true) : MethOk P t m:=by
 unfold methB at h
 split at h
 ·rename_i i hi
  split at h
  ·rename_i row hr
   rw [Bool.and_eq_true] at h
   obtain ⟨h1,h2⟩:=h
   split at h2
   ·rename_i g p hf
    rw [Bool.and_eq_true,beq_iff_eq] at h2
    obtain ⟨rfl,h3⟩:=h2
    refine ⟨i,row,p,hi,hr,by simpa using h1,hf,?_⟩
    cases hm : m.2.2 with
    | true=>rw [hm] at h3; simpa using h3
    | false=>rw [hm] at h3; simpa using h3
   ·cases h2
  ·cases h
 ·cases h
def tyB (P : Program) (t : TypeId) (a : AT) : Bool :=
 (match P.info? t with
 | some i=>i.size==a.size&&i.bytes==a.bytes&&(match i.zero with
   | some z=>z.cells.size==i.size&&closedsB a.zero z.cells.toList&&isAggV z==a.d.isAgg
   | none=>false)
 | none=>false)&&descB P t a.d&&a.ms.all (methB P t)&&(!a.eqOk || (!P.eqGuardType P.depth t&&!P.stoodInHeld t))
theorem ty_of_B {P : Program} {t : TypeId} {a : AT} (h : tyB P t a=true) : TyInfo P t a:=by
 unfold tyB at h
 simp only [Bool.and_eq_true] at h
 obtain ⟨⟨⟨h1,h2⟩,hm⟩,h3⟩:=h
 refine ⟨fun m hm'=>meth_of_B (List.all_eq_true.1 hm m hm'),?_,desc_of_B h2,fun he=>?_,fun i z hi hz=>?_⟩
 ·split at h1
  ·rename_i i hi
   simp only [Bool.and_eq_true,beq_iff_eq] at h1
   obtain ⟨⟨a1,a2⟩,a3⟩:=h1
   split at a3
   ·rename_i z hz
    simp only [Bool.and_eq_true,beq_iff_eq] at a3
    exact ⟨i,z,hi,a1,a2,hz,a3.1.1,closeds_of_B a3.1.2⟩
   ·cases a3
  ·cases h1
 ·simpa [he] using h3
 ·rw [hi] at h1
  simp only [hz,Bool.and_eq_true,beq_iff_eq] at h1
  exact h1.2.2
end Go.Abs
namespace Go.Abs
def evList (T : TT) (G : Nat→Option (List AV)) (C : ACall) (ops : Array Oper) (K : List AV→AH→Prop) : List Oper→List AV→AH→Prop
 | [],fr,H=>K fr H
 | o::rest,fr,H=>if Region.wanted o (ayielded ops fr)=true then evOp T G C fr H o.op (fun v H'=>evList T G C ops K rest (aput fr o.dst v) H')
     else evList T G C ops K rest (aput fr o.dst (.tup [])) H
theorem evOps_list {T : TT} {G : Nat→Option (List AV)} {C : ACall} {ops : Array Oper} {K : List AV→AH→Prop} : ∀ (l : List Nat) (os : List Oper),(∀ (j : Nat),j < l.length→(l[j]?).bind (ops[·]?)=os[j]?)→l.length=os.length →
  ∀ fr H,evOps T G C ops K l fr H=evList T G C ops K os fr H
 | [],[],_,_,_,_=>rfl
 | [],_::_,_,hn,_,_=>by simp at hn
 | _::_,[],_,hn,_,_=>by simp at hn
 | i::l,o::os,hj,hn,fr,H=>by
   have h0:=hj 0 (by simp)
   simp only [List.getElem?_cons_zero,Option.bind_some] at h0
   have hrest : ∀ (j : Nat),j < l.length→(l[j]?).bind (ops[·]?)=os[j]?:=fun j hl=>by
    have:=hj (j+1) (by simpa using hl)
    simpa using this
   have ih:=evOps_list (T:=T) (G:=G) (C:=C) (K:=K) l os hrest (by simpa using hn)
   unfold evOps evList
   rw [h0]
   simp only [ih]
theorem evOps_range {T : TT} {G : Nat→Option (List AV)} {C : ACall} {ops : Array Oper} {K : List AV→AH→Prop} (fr : List AV) (H : AH) : evOps T G C ops K (List.range ops.size) fr H=evList T G C ops K ops.toList fr H :=
 evOps_list _ _ (fun j hj=>by
  rw [List.length_range] at hj
  rw [List.getElem?_range hj]
  simp) (by simp) fr H
theorem ev_region {T : TT} {G : Nat→Option (List AV)} {mx : Bool} {C : ACall} {n id : Nat} {ops : Array Oper} {fr : List AV} {H : AH} {Q : APost} : ev T G mx C n (.region id ops false) fr H Q=evList T G C ops (Q .normal) ops.toList fr H:=by
 unfold ev
 simp only [Bool.false_eq_true,if_false]
 exact evOps_range fr H
def AX.then (b : List AV→AH→Prop) (Q : APost) : APost:=fun e fr H=>match e with
 | .normal=>b fr H
 | e=>Q e fr H
def AX.inBlock (id : Nat) (Q : APost) : APost:=fun e fr H=>match e with
 | .exit i=>if i=id then Q .normal fr H else Q (.exit i) fr H
 | e=>Q e fr H
variable {T : TT} {G : Nat→Option (List AV)} {mx : Bool} {C : ACall} {n : Nat} {fr : List AV} {H : AH} {Q : APost}
theorem ev_seq {a b : Code} : ev T G mx C n (.seq a b) fr H Q=ev T G mx C n a fr H (AX.then (fun fr H=>∃ fr2 H2,VS n fr H fr2 H2∧ev T G mx C n b fr2 H2 Q) Q):=by
 conv=>lhs; unfold ev
 refine congrArg _ ?_
 funext e fr' H'
 cases e<;>rfl
theorem ev_block {id : Nat} {c : Code} : ev T G mx C n (.block id c) fr H Q=ev T G mx C n c fr H (AX.inBlock id Q):=by
 conv=>lhs; unfold ev
 refine congrArg _ ?_
 funext e fr' H'
 cases e<;>rfl
theorem ev_cond {c : Operand} {a b : Code} : ev T G mx C n (.cond c a b) fr H Q=match aval G fr c with
  | some (.bool true)=>ev T G mx C n a fr H Q
  | some (.bool false)=>ev T G mx C n b fr H Q
  | _=>False:=rfl
theorem ev_loop {c : Code} : ev T G mx C n (.loop c) fr H Q=Loop n (fun fr H Q=>ev T G mx C n c fr H Q) Q fr H:=rfl
theorem loop_round {P : Program} {c : Code} (h : ev T G mx (EvCall P T G) n c fr H (AX.then (fun fr H=>ev T G mx (EvCall P T G) n (.loop c) fr H Q) Q)) : ev T G mx (EvCall P T G) n (.loop c) fr H Q:=by
 rw [ev_loop]
 intro I h1 h2
 refine h1 fr H ?_
 show ev T G mx (EvCall P T G) n c fr H _
 refine ev_mono (C:=EvCall P T G) (C':=EvCall P T G) (fun f args H k k' hk hc=>EvCall.mono hk hc) _ _ _ _ _ (fun e fr' H' he=>?_) h
 cases e with
 | normal=>exact he I h1 h2
 | exit id=>exact he
 | ret=>exact he
theorem loop_shift {c : Code} {fr' : List AV} {H' : AH} (hv : VS n fr H fr' H') (h : ev T G mx C n (.loop c) fr' H' Q) : ev T G mx C n (.loop c) fr H Q:=by
 rw [ev_loop] at h ⊢
 intro I h1 h2
 exact h2 fr H fr' H' hv (h I h1 h2)
theorem call_intro {P : Program} {f : FuncId} {fn : Func} {c : Code} {args : List AV} {k : AV→AH→Prop} (h1 : P.funcs[f]?=some fn) (h2 : fn.body=some c) (h3 : (fn.name == "runtime.NumGoroutine")=false)
  (h4 : ev T G (P.follows .mixedOrders) (EvCall P T G) H.length c (args++List.replicate (fn.ntmps - args.length) (.tup [])) H (fun e fr H' =>
   (match e with|.exit _=>False|_=>True)∧∃ r,aresults T fn fr H'=some r∧∃ r' H'',VS H.length [r] H' [r'] H''∧k r' H'')) : EvCall P T G f args H k :=
 EvCall.intro ⟨fn,c,h1,h2,h3,h4⟩
theorem evOp_call {f : Operand} {args : Array Operand} {ts : Array TypeId} {k : AV→AH→Prop} : evOp T G C fr H (.call { callee:=.value f,args:=args,argTypes:=ts }) k=match aval G fr f,args.toList.mapM (aval G fr) with
  | some (.fn g first caps),some as=>C g (first++as++caps) H k
  | _,_=>False:=rfl
theorem aput_some {d : Tmp} {v : AV} : aput fr (some d) v=fr.set d v:=rfl
theorem evOp_of {op : Op} {v : AV} {H' : AH} (ho : aop T G fr H op=some (v,H')) {k : AV→AH→Prop} (h : k v H') : evOp T G C fr H op k:=by
 unfold evOp
 split
 ·simp [aop] at ho
 ·left; rw [ho]; exact h
 ·left; rw [ho]; exact h
 ·left; rw [ho]; exact h
 ·left; rw [ho]; exact h
 ·simp [aop] at ho
 ·simp [aop] at ho
 ·rw [ho]; exact h
theorem evOp_alt {op : Op} {j : Nat} {v : AV} {H' : AH} (ho : aalt T G fr H j op=some (v,H')) {k : AV→AH→Prop} (h : k v H') : evOp T G C fr H op k:=by
 have h0:=ho
 unfold aalt at h0
 split at h0
 ·right; exact ⟨j,by rw [ho]; exact h⟩
 ·right; exact ⟨j,by rw [ho]; exact h⟩
 ·right; exact ⟨j,by rw [ho]; exact h⟩
 ·right; exact ⟨j,by rw [ho]; exact h⟩
 ·cases h0
theorem evOp_frozen {t : TypeId} {len : Nat} {parts : Array (Nat×Operand)} {v : AV} (ho : afrozen T G fr t len parts=some v) {k : AV→AH→Prop} (h : k v H) : evOp T G C fr H (.buildSlice t len parts) k :=
 evOp_alt (j:=0) (by show (afrozen T G fr t len parts).map (·,H)=some (v,H); rw [ho]; rfl) h
theorem go_seq {a b : Code} (h : ev T G mx C n a fr H (AX.then (fun fr H=>∃ fr2 H2,VS n fr H fr2 H2∧ev T G mx C n b fr2 H2 Q) Q)) : ev T G mx C n (.seq a b) fr H Q:=by rw [ev_seq]; exact h
theorem go_region {id : Nat} {ops : Array Oper} (h : evList T G C ops (Q .normal) ops.toList fr H) : ev T G mx C n (.region id ops false) fr H Q:=by rw [ev_region]; exact h
theorem do_skip (h : Q .normal fr H) : ev T G mx C n .skip fr H Q:=h
theorem do_label {l : Nat} (h : Q .normal fr H) : ev T G mx C n (.label l) fr H Q:=h
theorem do_exit {id : Nat} (h : Q (.exit id) fr H) : ev T G mx C n (.exit id) fr H Q:=h
theorem do_ret (h : Q .ret fr H) : ev T G mx C n .ret fr H Q:=h
theorem do_scope {c : Code} (h : ev T G mx C n c fr H Q) : ev T G mx C n (.scope c) fr H Q:=h
theorem cond_t {c : Operand} {a b : Code} (hc : aval G fr c=some (.bool true)) (h : ev T G mx C n a fr H Q) : ev T G mx C n (.cond c a b) fr H Q:=by rw [ev_cond,hc]; exact h
theorem cond_f {c : Operand} {a b : Code} (hc : aval G fr c=some (.bool false)) (h : ev T G mx C n b fr H Q) : ev T G mx C n (.cond c a b) fr H Q:=by rw [ev_cond,hc]; exact h
theorem go_block {id : Nat} {c : Code} (h : ev T G mx C n c fr H (AX.inBlock id Q)) : ev T G mx C n (.block id c) fr H Q:=by rw [ev_block]; exact h
theorem go_same {c : Code} (h : ev T G mx C n c fr H Q) : ∃ fr2 H2,VS n fr H fr2 H2∧ev T G mx C n c fr2 H2 Q:=⟨fr,H,VS.refl _ _ _,h⟩
theorem go_call {P : Program} {f : FuncId} {fn : Func} {c : Code} {args fr0 : List AV} {k : AV→AH→Prop} (h1 : P.funcs[f]?=some fn) (h2 : fn.body=some c) (h3 : (fn.name == "runtime.NumGoroutine")=false) (h0 : args++List.replicate (fn.ntmps - args.length) (.tup [])=fr0)
  (h4 : ev T G (P.follows .mixedOrders) (EvCall P T G) H.length c fr0 H (fun e fr H'=>(match e with|.exit _=>False|_=>True)∧∃ r,aresults T fn fr H'=some r∧∃ r' H'',VS H.length [r] H' [r'] H''∧k r' H'')) : EvCall P T G f args H k:=by
 subst h0
 exact call_intro h1 h2 h3 h4
def kRun (T : TT) (G : Nat→Option (List AV)) (A : Array Oper) : List Oper→List AV→AH→Option (List AV×AH)
 | [],fr,H=>some (fr,H)
 | o::rest,fr,H=>match Region.wanted o (ayielded A fr) with
   | true=>match aop T G fr H o.op with
     | some (v,H')=>kRun T G A rest (aput fr o.dst v) H'
     | none=>none
   | false=>kRun T G A rest (aput fr o.dst (.tup [])) H
end Go.Abs
namespace Go.Abs
theorem mapM_congr_mem {α β : Type} {f g : α→Option β} : ∀ {l : List α},(∀ x∈l,f x=g x)→l.mapM f=l.mapM g
 | [],_=>rfl
 | a::l,h=>by
   simp only [List.mapM_cons]
   rw [h a (by simp),mapM_congr_mem (l:=l) (fun x hx=>h x (by simp [hx]))]
theorem aop_congr {T : TT} {G : Nat→Option (List AV)} {fr fr' : List AV} {H : AH} (op : Op) (h : ∀ x∈op.operands,aval G fr x=aval G fr' x) : aop T G fr H op=aop T G fr' H op:=by
 have hl : ∀ xs : Array Operand,(∀ x∈xs,aval G fr x=aval G fr' x)→xs.toList.mapM (aval G fr)=xs.toList.mapM (aval G fr'):=fun xs hx=>mapM_congr_mem fun x hm=>hx x (by simpa using hm)
 have hp : ∀ ps : Array (Nat×Operand),(∀ x∈(ps.toList.map (·.2)).toArray,aval G fr x=aval G fr' x) →
   (ps.toList.mapM fun p=>(aval G fr p.2).map fun v=>(p.1,v))=(ps.toList.mapM fun p=>(aval G fr' p.2).map fun v=>(p.1,v)):=fun ps hx=>mapM_congr_mem fun p hm=>by
  rw [hx p.2 (by simpa using ⟨p.1,by simpa using hm⟩)]
 cases op
 case move x|assign x|box t x|load t x|nilCheck x|unOp o t x|convert s t x|extract x i=>simp only [aop,h x (by simp [Op.operands])]
 case pick a b c=>simp only [aop,h a (by simp [Op.operands]),h b (by simp [Op.operands]),h c (by simp [Op.operands])]
 case build t ps=>simp only [aop,hp ps (fun x hx=>h x hx)]
 case buildSlice t n ps=>simp only [aop,hp ps (fun x hx=>h x hx)]
 case store t a b|binOp o t a b u|makeSlice t a b|indexAddr t a b|index t a b=>simp only [aop,h a (by simp [Op.operands]),h b (by simp [Op.operands])]
 case lookup t a b ok=>simp only [aop,h a (by simp [Op.operands]),h b (by simp [Op.operands])]
 case mapUpdate t a b c|insert t a b c=>simp only [aop,h a (by simp [Op.operands]),h b (by simp [Op.operands]),h c (by simp [Op.operands])]
 case makeMap t r=>cases r<;>rfl
 case range t x|entry x=>simp only [aop,h x (by simp [Op.operands])]
 case makeInterface t x=>simp only [aop,h x (by simp [Op.operands])]
 case typeAssert x u t ok=>simp only [aop,h x (by simp [Op.operands])]
 case fieldAddr t x f=>simp only [aop,h x (by simp [Op.operands])]
 case field t x f=>simp only [aop,h x (by simp [Op.operands])]
 case makeFunc f a b =>
  cases f<;>simp only [aop]
  rw [hl a (fun x hx=>h x (by simp [Op.operands,hx])),hl b (fun x hx=>h x (by simp [Op.operands,hx]))]
 case slice t x a b c =>
  have ho : ∀ o : Option Operand,(∀ y∈o.toArray,aval G fr y=aval G fr' y)→o.mapM (aval G fr)=o.mapM (aval G fr'):=fun o hy=>by
   cases o with
   | none=>rfl
   | some y=>show Option.map some (aval G fr y)=Option.map some (aval G fr' y); rw [hy y (by simp)]
  simp only [aop,h x (by simp [Op.operands]),ho a (fun y hy=>h y (by simp [Op.operands] at hy ⊢; simp [hy])),ho b (fun y hy=>h y (by simp [Op.operands] at hy ⊢; simp [hy])),ho c (fun y hy=>h y (by simp [Op.operands] at hy ⊢; simp [hy]))]
 case call c =>
  obtain ⟨cl,as,ts⟩:=c
  cases cl<;>simp only [aop]
  rw [hl as (fun x hx=>h x (by simp [Op.operands,Call.operands,hx]))]
 all_goals rfl
theorem aalt_congr {T : TT} {G : Nat→Option (List AV)} {fr fr' : List AV} {H : AH} (j : Nat) (op : Op) (h : ∀ x∈op.operands,aval G fr x=aval G fr' x) : aalt T G fr H j op=aalt T G fr' H j op:=by
 cases op
 case buildSlice t n ps =>
  have hp : (ps.toList.mapM fun p=>(aval G fr p.2).map fun v=>(p.1,v))=(ps.toList.mapM fun p=>(aval G fr' p.2).map fun v=>(p.1,v)):=mapM_congr_mem fun p hm=>by
   rw [h p.2 (by simpa [Op.operands] using ⟨p.1,by simpa using hm⟩)]
  simp only [aalt,afrozen,hp]
 case convert s t x=>simp only [aalt,h x (by simp [Op.operands])]
 case makeSlice t a b=>simp only [aalt,h a (by simp [Op.operands]),h b (by simp [Op.operands])]
 case call c =>
  obtain ⟨cl,as,ts⟩:=c
  have hl : as.toList.mapM (aval G fr)=as.toList.mapM (aval G fr'):=mapM_congr_mem fun x hm=>h x (by
   have hx' : x∈as:=by simpa using hm
   simp [Op.operands,Call.operands,hx'])
  cases cl with
  | builtin b=>cases b<;>first|rfl|simp only [aalt,hl]
  | value f=>rfl
  | invoke a b=>rfl
 all_goals rfl
def isAny (e : Edge) : Bool:=match e.ground with|.textOnly _|.gcOnly _=>false|_=>true
def chk1 (T : TT) (G : Nat→Option (List AV)) (ops : List Oper) (F : List AV) (H : AH) (o : Oper) : Prop :=
 match o.guard with
 | none=>(o.dst.bind (F[·]?)).isSome=true∧aop T G F H o.op=(o.dst.bind (F[·]?)).map (·,H)
 | some (j,w)=>(ayielded ops.toArray F j=some w∧(o.dst.bind (F[·]?)).isSome=true∧aop T G F H o.op=(o.dst.bind (F[·]?)).map (·,H)) ∨
   (ayielded ops.toArray F j=some (!w)∧o.dst.bind (F[·]?)=some (.tup []))∨(ayielded ops.toArray F j=none∧o.dst.bind (F[·]?)=some (.tup []))
def chks (T : TT) (G : Nat→Option (List AV)) (ops : List Oper) (F : List AV) (H : AH) : List Oper→Prop
 | []=>True
 | o::rest=>chk1 T G ops F H o∧chks T G ops F H rest
theorem chks_mem {T : TT} {G : Nat→Option (List AV)} {ops : List Oper} {F : List AV} {H : AH} {o : Oper} : ∀ {l : List Oper},chks T G ops F H l→o∈l→chk1 T G ops F H o
 | [],_,h=>by simp at h
 | a::l,hc,h=>by
   rcases List.mem_cons.1 h with rfl|h
   ·exact hc.1
   ·exact chks_mem hc.2 h
theorem chk1_spec {T : TT} {G : Nat→Option (List AV)} {ops : List Oper} {F : List AV} {H : AH} {o : Oper} (h : chk1 T G ops F H o) : ∃ v,o.dst.bind (F[·]?)=some v ∧
  ((Region.wanted o (ayielded ops.toArray F)=true∧aop T G F H o.op=some (v,H))∨(Region.wanted o (ayielded ops.toArray F)=false∧v=.tup [])):=by
 unfold chk1 at h
 unfold Region.wanted
 cases hg : o.guard with
 | none =>
   rw [hg] at h
   obtain ⟨h1,h2⟩:=h
   obtain ⟨v,hv⟩:=Option.isSome_iff_exists.1 h1
   rw [hv] at h2
   exact ⟨v,hv,.inl ⟨rfl,h2⟩⟩
 | some jw =>
   obtain ⟨j,w⟩:=jw
   rw [hg] at h
   rcases h with ⟨hy,h1,h2⟩|⟨hy,h1⟩|⟨hy,h1⟩
   ·obtain ⟨v,hv⟩:=Option.isSome_iff_exists.1 h1
    rw [hv] at h2
    exact ⟨v,hv,.inl ⟨by simp [hy],h2⟩⟩
   ·exact ⟨_,h1,.inr ⟨by cases w<;>simp [hy],rfl⟩⟩
   ·exact ⟨_,h1,.inr ⟨by cases w<;>simp [hy],rfl⟩⟩
theorem isAny_binds {e : Edge} (h : isAny e=true) (m : Region.Mode) : Region.binds m e=true:=by
 unfold isAny at h
 unfold Region.binds
 cases hg : e.ground<;>simp_all
theorem evList_ends {T : TT} {G : Nat→Option (List AV)} {C : ACall} {K : List AV→AH→Prop} {ops : Array Oper} (hC : Ends C) : ∀ (l : List Oper) (fr : List AV) (H : AH),evList T G C ops K l fr H →
  ∃ F H',K F H'∧F.length=fr.length∧∀ k,(∀ o∈l,o.dst≠some k)→F[k]?=fr[k]?
 | [],fr,H,h=>⟨fr,H,h,rfl,fun _ _=>rfl⟩
 | o::l,fr,H,h=>by
   have hput : ∀ v k,o.dst≠some k→(aput fr o.dst v)[k]?=fr[k]?:=fun v k hk=>by
    cases hd : o.dst with
    | none=>rfl
    | some d=>rw [aput_some,List.getElem?_set_ne (fun e=>hk (by rw [hd,e]))]
   have hlen : ∀ v,(aput fr o.dst v).length=fr.length:=fun v=>by cases o.dst<;>simp [aput]
   have fin : ∀ v H1,evList T G C ops K l (aput fr o.dst v) H1→∃ F H',K F H'∧F.length=fr.length∧∀ k,(∀ o'∈o::l,o'.dst≠some k)→F[k]?=fr[k]?:=fun v H1 h1=>by
    obtain ⟨F,H',hk,hl,hf⟩:=evList_ends hC l _ _ h1
    exact ⟨F,H',hk,by rw [hl,hlen],fun k hk'=>by rw [hf k (fun o' ho'=>hk' o' (by simp [ho'])),hput v k (hk' o (by simp))]⟩
   unfold evList at h
   split at h
   ·obtain ⟨v,H',h'⟩:=evOp_ends hC h
    exact fin _ _ h'
   ·exact fin _ _ h
theorem callMono {P : Program} {T : TT} {G : Nat→Option (List AV)} : ∀ f args H (k k' : AV→AH→Prop),(∀ r H,k r H→k' r H)→EvCall P T G f args H k→EvCall P T G f args H k':=fun _ _ _ _ _ hk hc=>EvCall.mono hk hc
end Go.Abs
namespace Go.Abs
theorem evOp_congr {T : TT} {G : Nat→Option (List AV)} {C : ACall} {fr fr' : List AV} {H : AH} {op : Op} {k : AV→AH→Prop} (h : ∀ x∈op.operands,aval G fr x=aval G fr' x) (hk : evOp T G C fr' H op k) : evOp T G C fr H op k:=by
 have h1:=aop_congr (T:=T) (H:=H) op h
 have h2:=fun j=>aalt_congr (T:=T) (H:=H) j op h
 unfold evOp at hk ⊢
 split at hk
 ·rename_i f args ts
  have hl : args.toList.mapM (aval G fr)=args.toList.mapM (aval G fr'):=mapM_congr_mem fun x hx=>h x (by
   have hx' : x∈args:=by simpa using hx
   simp [Op.operands,Call.operands,hx'])
  have hf:=h f (by simp [Op.operands,Call.operands])
  rw [hf,hl]
  exact hk
 ·rw [h1]; exact hk.imp id fun ⟨j,hj⟩=>⟨j,by rw [h2 j]; exact hj⟩
 ·rw [h1]; exact hk.imp id fun ⟨j,hj⟩=>⟨j,by rw [h2 j]; exact hj⟩
 ·rw [h1]; exact hk.imp id fun ⟨j,hj⟩=>⟨j,by rw [h2 j]; exact hj⟩
 ·rw [h1]; exact hk.imp id fun ⟨j,hj⟩=>⟨j,by rw [h2 j]; exact hj⟩
 ·rename_i it
  rw [h it (by simp [Op.operands])]
  exact hk
 ·rename_i r name args ts
  have hl : args.toList.mapM (aval G fr)=args.toList.mapM (aval G fr'):=mapM_congr_mem fun x hx=>h x (by
   have hx' : x∈args:=by simpa using hx
   simp [Op.operands,Call.operands,hx'])
  rw [h r (by simp [Op.operands,Call.operands]),hl]
  exact hk
 ·rw [h1]; exact hk
def gcEdge (e : Edge) : Bool:=match e.ground with|.gcOnly _=>true|_=>false
def textEdge (e : Edge) : Bool:=match e.ground with|.textOnly _=>true|_=>false
def okD (cs : List Nat) (ops : List Oper) : Bool :=
 (List.range ops.length).all fun i=>match ops[i]? with
  | none=>false
  | some o=>(cs.contains i || o.dst.isSome)&&(o.after.toList.all fun e=>if gcEdge e then decide (e.on < ops.length) else decide (e.on < i))&&(List.range ops.length).all fun j=>match ops[j]? with
    | none=>false
    | some o'=>match o'.dst with
      | some k=>(i==j || !(o.dst==some k))&&(cs.contains j || !((o.looksAt ops.toArray).contains k) || o.after.toList.any fun e=>isAny e&&e.on==j)
      | none=>true
def lateRank (m i : Nat) : Nat:=if m=0 then i else (m >>> (8 * i)) % 256
def okGc (ops : List Oper) (m : Nat) : Bool :=
 (List.range ops.length).all fun i=>match ops[i]? with
  | none=>false
  | some o=>o.after.toList.all fun e=>textEdge e || decide (lateRank m e.on < lateRank m i)
theorem okD_spec {cs : List Nat} {ops : List Oper} (h : okD cs ops=true) : ∀ i o,ops[i]?=some o→(i∈cs∨∃ k,o.dst=some k)∧(∀ e∈o.after,(gcEdge e=false→e.on < i)∧e.on < ops.length) ∧
  ∀ j o' k,ops[j]?=some o'→o'.dst=some k→(i≠j→o.dst≠some k)∧(k∈o.looksAt ops.toArray→j∈cs∨∃ e∈o.after,isAny e=true∧e.on=j):=by
 unfold okD at h
 rw [List.all_eq_true] at h
 refine fun i o hi=>?_
 have hin : i < ops.length:=(List.getElem?_eq_some_iff.1 hi).1
 have h1:=h i (List.mem_range.2 hin)
 rw [hi] at h1
 simp only [Bool.and_eq_true,List.all_eq_true] at h1
 obtain ⟨⟨h2,h3⟩,h4⟩:=h1
 refine ⟨(Bool.or_eq_true_iff.1 h2).imp (fun h=>by simpa using h) Option.isSome_iff_exists.1,fun e he=>?_,fun j o' k hj hk=>?_⟩
 ·have:=h3 e (by simpa using he)
  split at this
  ·rename_i hg
   exact ⟨fun h=>absurd (hg.symm.trans h) (by decide),by simpa using this⟩
  ·have h5 : e.on < i:=by simpa using this
   exact ⟨fun _=>h5,by omega⟩
 ·have h5:=h4 j (List.mem_range.2 (List.getElem?_eq_some_iff.1 hj).1)
  rw [hj] at h5
  simp only [hk,Bool.and_eq_true,Bool.or_eq_true,beq_iff_eq,Bool.not_eq_true',List.any_eq_true] at h5
  obtain ⟨h6,h7⟩:=h5
  refine ⟨fun hne hd=>?_,fun hm=>?_⟩
  ·rcases h6 with h6|h6
   ·exact hne h6
   ·rw [hd] at h6; simp at h6
  ·rcases h7 with (h7|h7)|⟨e,he,h8,h9⟩
   ·exact .inl (by simpa using h7)
   ·rw [List.contains_eq_mem,decide_eq_false_iff_not] at h7
    exact absurd hm h7
   ·exact .inr ⟨e,by simpa using he,h8,h9⟩
structure Agree2 (ops : List Oper) (cs : List Nat) (F : List AV) (listed : Array Bool) (fr : List AV) : Prop where
 len : fr.length=F.length
 all : ∀ k,(∀ (i : Nat) (o : Oper),ops[i]?=some o→o.dst=some k→i∈cs∨listed.getD i false=true)→fr[k]?=F[k]?
theorem any_gc {e : Edge} (h : isAny e=true) : gcEdge e=false:=by
 unfold isAny at h
 unfold gcEdge
 cases hg : e.ground<;>simp_all
theorem agree_reads2 {ops : List Oper} {cs : List Nat} {F : List AV} {listed : Array Bool} {fr : List AV} {G : Nat→Option (List AV)} (hok : okD cs ops=true) (ha : Agree2 ops cs F listed fr) {i : Nat} {o : Oper} {m : Region.Mode} (hi : ops[i]?=some o)
  (hr : ∀ e∈o.after,Region.binds m e=true→listed.getD e.on false=true) : (∀ x∈o.op.operands,aval G fr x=aval G F x)∧Region.wanted o (ayielded ops.toArray fr)=Region.wanted o (ayielded ops.toArray F):=by
 have key : ∀ k∈o.looksAt ops.toArray,fr[k]?=F[k]?:=fun k hk=>by
  refine ha.all k fun j o' hj hk'=>?_
  rcases ((okD_spec hok i o hi).2.2 j o' k hj hk').2 hk with h|⟨e,he,h1,h2⟩
  ·exact .inl h
  ·exact .inr (h2 ▸ hr e he (isAny_binds h1 m))
 constructor
 ·intro x hx
  cases x with
  | tmp t =>
    have:=key t (List.mem_append_left _ (List.mem_filterMap.2 ⟨.tmp t,by simpa using hx,rfl⟩))
    simp only [aval,List.getD_eq_getElem?_getD,this]
  | _=>rfl
 ·unfold Region.wanted
  cases hg : o.guard with
  | none=>rfl
  | some jw =>
    obtain ⟨j,w⟩:=jw
    have : ayielded ops.toArray fr j=ayielded ops.toArray F j:=by
     unfold ayielded
     cases ht : (ops.toArray[j]?).bind (·.dst) with
     | none=>rfl
     | some t =>
       have:=key t (List.mem_append_right _ (by rw [hg]; simp only []; rw [ht]; simp))
       simp only [Option.bind_some,this]
    simp only [this]
def Ranked (m : Region.Mode) (ops : List Oper) (rank : Nat→Nat) : Prop:=∀ i o,ops[i]?=some o→∀ e∈o.after,Region.binds m e=true→rank e.on < rank i
theorem ranked_id {m : Region.Mode} {cs : List Nat} {ops : List Oper} (hm : m≠.gc) (hok : okD cs ops=true) : Ranked m ops (fun i=>i):=fun i o hi e he hb=>by
 refine ((okD_spec hok i o hi).2.1 e he).1 ?_
 unfold Region.binds at hb
 unfold gcEdge
 cases hg : e.ground with
 | gcOnly r=>rw [hg] at hb; simp only [beq_iff_eq] at hb; exact absurd hb hm
 | _=>rfl
theorem ranked_gc {ops : List Oper} {L : Nat} (h : okGc ops L=true) : Ranked .gc ops (lateRank L):=fun i o hi e he hb=>by
 unfold okGc at h
 rw [List.all_eq_true] at h
 have h1:=h i (List.mem_range.2 (List.getElem?_eq_some_iff.1 hi).1)
 rw [hi] at h1
 simp only [List.all_eq_true,Bool.or_eq_true,decide_eq_true_eq] at h1
 rcases h1 e (by simpa using he) with h2|h2
 ·exfalso
  unfold Region.binds at hb
  unfold textEdge at h2
  cases hg : e.ground<;>rw [hg] at hb h2<;>first|(cases h2; done)|(simp at hb; done)
 ·exact h2
def pureOp (T : TT) : Op→Bool
 | .move _|.assign _|.pick _ _ _|.build _ _|.load _ _|.nilCheck _|.binOp _ _ _ _ _|.unOp _ _ _|.makeFunc _ _ _|.slice _ _ _ _ _|.fieldAddr _ _ _|.field _ _ _|.indexAddr _ _ _|.index _ _ _|.extract _ _|.makeInterface _ _|.typeAssert _ _ _ _|.lookup _ _ _ _=>true
 | .convert _ d _=>match (T d).d with|.slice _=>false|_=>true
 | .call { callee:=.builtin .len,.. }|.call { callee:=.builtin .min,.. }|.call { callee:=.builtin .max,.. }=>true
 | _=>false
def isCallOp : Op→Bool
 | .call { callee:=.value _,.. }=>true
 | .call { callee:=.invoke _ _,.. }=>true
 | .call { callee:=.builtin .append,.. }=>true
 | .buildSlice _ _ _=>true
 | _=>false
def maskOf (A : List Nat) (o : Oper) : Nat:=o.after.toList.foldl (fun m e=>if isAny e then m ||| 2 ^ e.on ||| A.getD e.on 0 else m) 0
def masksGo : List Oper→List Nat→List Nat
 | [],acc=>acc
 | o::r,acc=>masksGo r (acc++[maskOf acc o])
def bit (A : List Nat) (i j : Nat) : Bool:=(A.getD i 0).testBit j
theorem bit_maskOf {A : List Nat} {o : Oper} {j : Nat} (h : (maskOf A o).testBit j=true) : ∃ e∈o.after,isAny e=true∧(e.on=j∨bit A e.on j=true):=by
 unfold maskOf at h
 have key : ∀ (l : List Edge) (m : Nat),(l.foldl (fun m e=>if isAny e then m ||| 2 ^ e.on ||| A.getD e.on 0 else m) m).testBit j=true→m.testBit j=true∨∃ e∈l,isAny e=true∧(e.on=j∨bit A e.on j=true):=by
  intro l
  induction l with
  | nil=>intro m h; exact .inl h
  | cons e l ih =>
    intro m h
    rw [List.foldl_cons] at h
    rcases ih _ h with h1|⟨e',h1,h2⟩
    ·by_cases ha : isAny e=true
     ·rw [if_pos ha,Nat.testBit_or,Nat.testBit_or,Nat.testBit_two_pow,Bool.or_eq_true,Bool.or_eq_true,decide_eq_true_eq] at h1
      rcases h1 with (h1|h1)|h1
      ·exact .inl h1
      ·exact .inr ⟨e,by simp,ha,.inl h1⟩
      ·exact .inr ⟨e,by simp,ha,.inr h1⟩
     ·rw [if_neg ha] at h1
      exact .inl h1
    ·exact .inr ⟨e',by simp [h1],h2⟩
 rcases key _ _ h with h1|⟨e,h1,h2⟩
 ·simp at h1
 ·exact ⟨e,by simpa using h1,h2⟩
def linksOf (p : Nat→Oper→Bool) (ops : List Oper) : List Nat:=(List.range ops.length).filter fun i=>match ops[i]? with|some o=>!p i o|none=>false
def free (T : TT) (cp : Nat) (i : Nat) (o : Oper) : Bool:=cp.testBit i&&(pureOp T o.op || isCallOp o.op)
def chainOk (A : List Nat) : List Nat→Bool
 | []=>true
 | c::r=>(r.all fun c'=>bit A c' c)&&chainOk A r
def enabled (A : List Nat) (rem : List Nat) (i : Nat) : Bool:=rem.all fun c=>!bit A i c
def someOps (q : Nat→Oper→Bool) (ops : List Oper) : List Oper:=(List.range ops.length).filterMap fun i=>match ops[i]? with|some o=>if q i o then some o else none|none=>none
theorem mem_someOps {q : Nat→Oper→Bool} {ops : List Oper} {o : Oper} : o∈someOps q ops↔∃ i,ops[i]?=some o∧q i o=true:=by
 unfold someOps
 rw [List.mem_filterMap]
 constructor
 ·rintro ⟨i,hi,h⟩
  cases ho : ops[i]? with
  | none=>rw [ho] at h; cases h
  | some o' =>
    rw [ho] at h
    simp only at h
    split at h
    ·rename_i hq
     cases h
     exact ⟨i,ho,hq⟩
    ·cases h
 ·rintro ⟨i,hi,hq⟩
  exact ⟨i,List.mem_range.2 (List.getElem?_eq_some_iff.1 hi).1,by rw [hi]; simp [hq]⟩
def chkC1 (T : TT) (G : Nat→Option (List AV)) (C : ACall) (ops : List Oper) (F : List AV) (H : AH) (o : Oper) : Prop :=
 ∃ v,o.dst.bind (F[·]?)=some v∧((Region.wanted o (ayielded ops.toArray F)=true∧∀ k : AV→AH→Prop,k v H→evOp T G C F H o.op k)∨(Region.wanted o (ayielded ops.toArray F)=false∧v=.tup []))
def chkCs (T : TT) (G : Nat→Option (List AV)) (C : ACall) (ops : List Oper) (F : List AV) (H : AH) : List Oper→Prop
 | []=>True
 | o::rest=>chkC1 T G C ops F H o∧chkCs T G C ops F H rest
theorem chkCs_mem {T : TT} {G : Nat→Option (List AV)} {C : ACall} {ops : List Oper} {F : List AV} {H : AH} {o : Oper} : ∀ {l : List Oper},chkCs T G C ops F H l→o∈l→chkC1 T G C ops F H o
 | [],_,h=>by simp at h
 | a::l,hc,h=>by
   rcases List.mem_cons.1 h with rfl|h
   ·exact hc.1
   ·exact chkCs_mem hc.2 h
theorem chkC1_of {T : TT} {G : Nat→Option (List AV)} {C : ACall} {ops : List Oper} {F : List AV} {H : AH} {o : Oper} (h : chk1 T G ops F H o) : chkC1 T G C ops F H o:=by
 obtain ⟨v,hv,hc⟩:=chk1_spec h
 refine ⟨v,hv,hc.imp (fun ⟨h1,h2⟩=>⟨h1,fun k hk=>?_⟩) id⟩
 exact evOp_of h2 hk
section
variable {T : TT} {G : Nat→Option (List AV)} {C : ACall} {cp : Nat} {A : List Nat} {ops : List Oper} {K : List AV→AH→Prop} {cs : List Nat}
def Down (ops : List Oper) (listed : Array Bool) : Prop:=∀ i o,ops[i]?=some o→listed.getD i false=true→∀ e∈o.after,isAny e=true→listed.getD e.on false=true
end
def pickOps (ops : List Oper) : List Nat→List Oper
 | []=>[]
 | i::is=>match ops[i]? with
   | some o=>o::pickOps ops is
   | none=>pickOps ops is
def idxs (q : Nat→Oper→Bool) (ops : List Oper) : List Nat:=(List.range ops.length).filter fun i=>match ops[i]? with|some o=>q i o|none=>false
theorem someOps_idx {q : Nat→Oper→Bool} {ops : List Oper} : someOps q ops=pickOps ops (idxs q ops):=by
 unfold someOps idxs
 generalize List.range ops.length=l
 induction l with
 | nil=>rfl
 | cons i l ih =>
   rw [List.filterMap_cons,List.filter_cons]
   cases ho : ops[i]? with
   | none=>simpa using ih
   | some o =>
     simp only []
     by_cases hq : q i o=true
     ·simp only [hq,if_true,pickOps,ho]
      rw [ih]
     ·simp only [hq]
      simpa using ih
section
variable {T : TT} {G : Nat→Option (List AV)} {C : ACall} {cp : Nat} {A : List Nat} {fr F : List AV} {H : AH} {ops l rest : List Oper} {K : List AV→AH→Prop} {d : Tmp} {op : Op} {t : TypeId} {p : String} {es : Array Edge} {v : AV}
end
end Go.Abs
namespace Go.Abs
inductive PT where
 | done
 | nil
 | alt (c : Nat) (p f1 f2 : List Nat) (next other : PT)
def PT.same : PT→PT→Bool
 | .done,.done=>true
 | .nil,.nil=>true
 | .alt c p f g n o,.alt c' p' f' g' n' o'=>c==c'&&p==p'&&f==f'&&g==g'&&n.same n'&&o.same o'
 | _,_=>false
theorem PT.same_eq : ∀ {a b : PT},a.same b=true→a=b
 | .done,.done,_=>rfl
 | .nil,.nil,_=>rfl
 | .alt c p f g n o,.alt c' p' f' g' n' o',h=>by
   simp only [PT.same,Bool.and_eq_true,beq_iff_eq] at h
   obtain ⟨⟨⟨⟨⟨rfl,rfl⟩,rfl⟩,rfl⟩,h1⟩,h2⟩:=h
   rw [PT.same_eq h1,PT.same_eq h2]
 | .done,.nil,h=>by cases h
 | .done,.alt ..,h=>by cases h
 | .nil,.done,h=>by cases h
 | .nil,.alt ..,h=>by cases h
 | .alt ..,.done,h=>by cases h
 | .alt ..,.nil,h=>by cases h
def evPT (T : TT) (G : Nat→Option (List AV)) (C : ACall) (ops : List Oper) (K : List AV→AH→Prop) : PT→List AV→AH→Prop
 | .done,F,H=>K F H
 | .nil,_,_=>True
 | .alt c p f1 f2 next other,F,H=>evList T G C ops.toArray (fun F1 H1=>evList T G C ops.toArray (fun F2 H2=>H2=H1∧chks T G ops F2 H2 (pickOps ops f1)∧(chkCs T G C ops F2 H2 (pickOps ops f2)∧evPT T G C ops K next F2 H2)) (pickOps ops p) F1 H1) (ops[c]?).toList F H∧evPT T G C ops K other F H
def treeOf (T : TT) (cp : Nat) (A : List Nat) (ops : List Oper) : Nat→List Nat→List Nat→PT
 | 0,_,_=>.done
 | n+1,dn,rem=>(rem.filter fun c=>rem.all fun c'=>!bit A c c').foldr (fun c r=>.alt c (idxs (fun i o=>free T cp i o&&enabled A (rem.erase c) i&&bit A i c) ops)
     (idxs (fun i o=>cp.testBit i&&pureOp T o.op&&enabled A (rem.erase c) i&&!(c::dn).any fun c'=>bit A c' i) ops) (idxs (fun i o=>cp.testBit i&&isCallOp o.op&&enabled A (rem.erase c) i&&!(c::dn).any fun c'=>bit A c' i) ops)
     (treeOf T cp A ops n (c::dn) (rem.erase c)) r) .nil
theorem evPT_alts {T : TT} {G : Nat→Option (List AV)} {C : ACall} {ops : List Oper} {K : List AV→AH→Prop} {p f1 f2 : Nat→List Nat} {nx : Nat→PT} {F : List AV} {H : AH} : ∀ {l : List Nat},evPT T G C ops K (l.foldr (fun c r=>.alt c (p c) (f1 c) (f2 c) (nx c) r) .nil) F H→∀ c∈l,
  evList T G C ops.toArray (fun F1 H1=>evList T G C ops.toArray (fun F2 H2=>H2=H1∧chks T G ops F2 H2 (pickOps ops (f1 c))∧(chkCs T G C ops F2 H2 (pickOps ops (f2 c))∧evPT T G C ops K (nx c) F2 H2)) (pickOps ops (p c)) F1 H1) (ops[c]?).toList F H
 | [],_,c,hc=>by simp at hc
 | a::l,h,c,hc=>by
   rw [List.foldr_cons] at h
   unfold evPT at h
   rcases List.mem_cons.1 hc with rfl|hc
   ·exact h.1
   ·exact evPT_alts h.2 c hc
section
variable {T : TT} {G : Nat→Option (List AV)} {C : ACall} {cp : Nat} {A : List Nat} {ops : List Oper} {K : List AV→AH→Prop} {cs : List Nat}
theorem down_bit2 (h1 : okD cs ops=true) (h2 : ∀ i o,ops[i]?=some o→∀ j,bit A i j=true→∃ e∈o.after,isAny e=true∧(e.on=j∨bit A e.on j=true)) {listed : Array Bool} (hd : Down ops listed) : ∀ i,i < ops.length→listed.getD i false=true→∀ j,bit A i j=true→listed.getD j false=true:=by
 intro i
 induction i using Nat.strongRecOn with
 | ind i ih =>
   intro hi hl j hj
   have ho : ops[i]?=some ops[i]:=List.getElem?_eq_getElem hi
   obtain ⟨e,he,ha,hc⟩:=h2 i _ ho j hj
   have hle:=hd i _ ho hl e he ha
   rcases hc with rfl|hc
   ·exact hle
   ·have:=((okD_spec h1 i _ ho).2.1 e he).1 (any_gc ha)
    exact ih e.on this (by omega) hle j hc
structure TreeAt (T : TT) (G : Nat→Option (List AV)) (C : ACall) (cp : Nat) (A : List Nat) (ops : List Oper) (K : List AV→AH→Prop) (cs dn rem : List Nat) (listed : Array Bool) (fr F : List AV) (H : AH) : Prop where
 down : Down ops listed
 rems : ∀ c∈rem,c∈cs∧listed.getD c false=false
 done : ∀ c∈cs,c ∉ rem→listed.getD c false=true
 dns : ∀ c∈dn,c < ops.length∧listed.getD c false=true
 nodup : rem.Nodup
 chk : ∀ i o,ops[i]?=some o→free T cp i o=true→enabled A rem i=true→listed.getD i false=false→chkC1 T G C ops F H o
 goes : evPT T G C ops K (treeOf T cp A ops rem.length dn rem) F H
 agree : Agree2 ops cs F listed fr
theorem tree_sound (m : Region.Mode) {rank : Nat→Nat} (hrank : Ranked m ops rank) (hC : Ends C) (hCm : Mono C) (hok1 : okD cs ops=true) (hbit : ∀ i o,ops[i]?=some o→∀ j,bit A i j=true→∃ e∈o.after,isAny e=true∧(e.on=j∨bit A e.on j=true)) (hcs : ∀ i o,ops[i]?=some o→(i∈cs↔free T cp i o=false)) (hlt : ∀ c∈cs,c < ops.length) :
  ∀ (fuel t : Nat) (listed : Array Bool) (dn rem : List Nat) (fr F : List AV) (H : AH),listed.size=ops.length→listed.toList.count false=fuel→TreeAt T G C cp A ops K cs dn rem listed fr F H →
    evOps T G C ops.toArray K (Region.linearise.go m ops.toArray fuel t listed []) fr H:=by
 intro fuel
 induction fuel with
 | zero =>
   intro t listed dn rem fr F H hs hcount hst
   have hall : ∀ i,i < ops.length→listed.getD i false=true:=fun i hi=>by
    have hn:=List.count_eq_zero.1 hcount
    have hlt : i < listed.size:=by omega
    cases hb : listed[i] with
    | true=>simp [hlt,hb]
    | false=>exact absurd (by rw [← hb]; simp) hn
   have hrem : rem=[]:=by
    cases rem with
    | nil=>rfl
    | cons c rem =>
      have:=hst.rems c (by simp)
      rw [hall c (hlt c this.1)] at this
      simp at this
   subst hrem
   have hfr : fr=F:=List.ext_getElem? fun k=>hst.agree.all k fun j o' hj _=>.inr (hall j (List.getElem?_eq_some_iff.1 hj).1)
   have:=hst.goes
   simp only [List.length_nil,treeOf,evPT] at this
   rw [hfr]
   simpa [Region.linearise.go,evOps] using this
 | succ fuel ih =>
   intro t listed dn rem fr F H hs hcount hst
   simp only [Region.linearise.go]
   change evOps T G C ops.toArray K (match (Region.ready m ops.toArray listed)[t % (Region.ready m ops.toArray listed).length]? with
    | some i=>Region.linearise.go m ops.toArray fuel (t / (Region.ready m ops.toArray listed).length) (listed.setIfInBounds i true) [i]
    | none=>[].reverse) fr H
   cases hi : (Region.ready m ops.toArray listed)[t % (Region.ready m ops.toArray listed).length]? with
   | none =>
     exfalso
     have hnil : Region.ready m ops.toArray listed=[]:=by
      cases hr : Region.ready m ops.toArray listed with
      | nil=>rfl
      | cons x xs =>
        rw [hr] at hi
        have hlt : t % (x::xs).length < (x::xs).length:=Nat.mod_lt _ (by simp)
        simp at hi
        simp at hlt
        omega
     have hall : ∀ i,i < ops.length→listed.getD i false=true:=by
      suffices hsuf : ∀ r i,rank i=r→i < ops.length→listed.getD i false=true by exact fun i=>hsuf _ i rfl
      intro r
      induction r using Nat.strongRecOn with
      | ind r ihi =>
        intro i hir hil
        subst hir
        cases hb : listed.getD i false with
        | true=>rfl
        | false =>
          have : i∈Region.ready m ops.toArray listed:=by
           rw [mem_ready]
           have hlt : i < listed.size:=by omega
           refine ⟨by simpa [hlt] using hb,ops[i],by simp,fun e he hbe=>?_⟩
           exact ihi _ (hrank i ops[i] (by simp) e he hbe) e.on rfl ((okD_spec hok1 i ops[i] (by simp)).2.1 e he).2
          rw [hnil] at this
          simp at this
     have : false∈listed.toList:=List.count_pos_iff.1 (by omega)
     obtain ⟨i,hi',hb⟩:=List.getElem_of_mem this
     have hlt : i < listed.size:=by simpa using hi'
     have:=hall i (by omega)
     rw [Array.getElem_toList] at hb
     simp [hlt,hb] at this
   | some i =>
     simp only []
     rw [linearise_go_acc,List.reverse_singleton,List.singleton_append]
     have hr:=List.mem_of_getElem? hi
     rw [mem_ready] at hr
     obtain ⟨hl,o,ho,hdeps⟩:=hr
     have ho' : ops[i]?=some o:=by simpa using ho
     have hin : i < ops.length:=(List.getElem?_eq_some_iff.1 ho').1
     have hil : i < listed.size:=by omega
     have hlf : listed.getD i false=false:=by simpa [hil] using hl
     obtain ⟨hread,hwant⟩:=agree_reads2 (G:=G) hok1 hst.agree ho' hdeps
     have hbits : ∀ j,bit A i j=true→listed.getD j false=true:=fun j hj=>by
      obtain ⟨e,he,ha,hc⟩:=hbit i o ho' j hj
      have hle:=hdeps e he (isAny_binds ha m)
      rcases hc with rfl|hc
      ·exact hle
      ·exact down_bit2 hok1 hbit hst.down e.on ((okD_spec hok1 i o ho').2.1 e he).2 hle j hc
     have hdown : Down ops (listed.setIfInBounds i true):=fun j oj hj hlj e he ha=>by
      by_cases hij : j=i
      ·subst hij
       rw [ho'] at hj
       cases hj
       have hle:=hdeps e he (isAny_binds ha m)
       by_cases hie : j=e.on
       ·rw [← hie]; simp [hil]
       ·rw [getD_set_ne false hie]; exact hle
      ·rw [getD_set_ne false (Ne.symm hij)] at hlj
       have hle:=hst.down j oj hj hlj e he ha
       by_cases hie : i=e.on
       ·rw [← hie]; simp [hil]
       ·rw [getD_set_ne false hie]; exact hle
     have hcnt : (listed.setIfInBounds i true).toList.count false=fuel:=by
      rw [Array.toList_setIfInBounds,List.count_set (by simpa using hil)]
      have : listed.toList[i]'(by simpa using hil)=false:=by
       rw [Array.getElem_toList]
       simpa [hil] using hl
      rw [this,hcount]
      rfl
     show evOps T G C ops.toArray K (i::_) fr H
     unfold evOps
     rw [ho]
     simp only [hwant]
     have hop : ∀ k : AV→AH→Prop,evOp T G C F H o.op k→evOp T G C fr H o.op k:=fun k hk=>evOp_congr hread hk
     by_cases hfree : free T cp i o=true
     ·
      have hen : enabled A rem i=true:=by
       unfold enabled
       rw [List.all_eq_true]
       intro c hc
       cases hb : bit A i c with
       | false=>rfl
       | true=>have:=hbits c hb; rw [(hst.rems c hc).2] at this; cases this
      have hnic : i ∉ cs:=fun h=>by have:=(hcs i o ho').1 h; rw [hfree] at this; cases this
      obtain ⟨d,hd⟩:=(okD_spec hok1 i o ho').1.resolve_left hnic
      obtain ⟨v,hv,hcase⟩:=hst.chk i o ho' hfree hen hlf
      rw [hd,Option.bind_some] at hv
      have hnext : TreeAt T G C cp A ops K cs dn rem (listed.setIfInBounds i true) (fr.set d v) F H:=by
       have hic : ∀ c∈rem,i≠c:=fun c hc e=>by
        have:=(hcs i o ho').1 (e ▸ (hst.rems c hc).1)
        rw [hfree] at this; cases this
       refine ⟨hdown,fun c hc=>⟨(hst.rems c hc).1,by rw [getD_set_ne false (hic c hc)]; exact (hst.rems c hc).2⟩,fun c hc hn=>?_,fun c hc=>?_,hst.nodup,fun j oj hj hf he hlj=>?_,hst.goes,⟨by simp [hst.agree.len],fun k hk=>?_⟩⟩
       ·by_cases h : i=c
        ·subst h; simp [hil]
        ·rw [getD_set_ne false h]; exact hst.done c hc hn
       ·by_cases h : i=c
        ·subst h; exact ⟨hin,by simp [hil]⟩
        ·exact ⟨(hst.dns c hc).1,by rw [getD_set_ne false h]; exact (hst.dns c hc).2⟩
       ·by_cases h : i=j
        ·subst h; simp [hil] at hlj
        ·rw [getD_set_ne false h] at hlj; exact hst.chk j oj hj hf he hlj
       ·by_cases hdk : d=k
        ·subst hdk
         have hdl:=(List.getElem?_eq_some_iff.1 hv).1
         rw [hv,List.getElem?_set_self (by rw [hst.agree.len]; exact hdl)]
        ·rw [List.getElem?_set_ne hdk]
         refine hst.agree.all k fun j oj hj hjk=>(hk j oj hj hjk).imp id fun hlj=>?_
         have hij : i≠j:=fun e=>by
          subst e
          rw [ho'] at hj
          cases hj
          rw [hd] at hjk
          cases hjk
          exact hdk rfl
         rwa [getD_set_ne false hij] at hlj
      have hgo:=ih (t / (Region.ready m ops.toArray listed).length) _ _ _ _ _ _ (by simpa using hs) hcnt hnext
      rcases hcase with ⟨hw,hop'⟩|⟨hw,hv'⟩
      ·rw [if_pos hw]
       refine hop _ (hop' _ ?_)
       rw [hd]
       exact hgo
      ·rw [if_neg (by simp [hw]),hd,← hv']
       exact hgo
     ·
      have hfree' : free T cp i o=false:=by simpa using hfree
      have hic:=(hcs i o ho').2 hfree'
      have hirem : i∈rem:=Classical.byContradiction fun hn=>by rw [hst.done i hic hn] at hlf; cases hlf
      have hself : bit A i i=false:=by
       cases hb : bit A i i with
       | false=>rfl
       | true=>have:=hbits i hb; rw [hlf] at this; cases this
      have hmin : i∈rem.filter fun c=>rem.all fun c'=>!bit A c c':=by
       rw [List.mem_filter,List.all_eq_true]
       refine ⟨hirem,fun c hc=>?_⟩
       cases hb : bit A i c with
       | false=>rfl
       | true=>have:=hbits c hb; rw [(hst.rems c hc).2] at this; cases this
      obtain ⟨n,hn⟩ : ∃ n,rem.length=n+1:=⟨rem.length - 1,by have:=List.length_pos_of_mem hirem; omega⟩
      have hlen' : (rem.erase i).length=n:=by rw [List.length_erase_of_mem hirem,hn]; rfl
      have hgoes:=hst.goes
      rw [hn] at hgoes
      unfold treeOf at hgoes
      have hgoes:=evPT_alts hgoes i hmin
      rw [ho',Option.toList_some] at hgoes
      simp only [← someOps_idx] at hgoes
      have hne : ∀ c∈rem.erase i,i≠c:=fun c hc e=>by
       subst e
       exact absurd hc (List.Nodup.not_mem_erase hst.nodup)
      have next : ∀ v H1,evList T G C ops.toArray (fun F2 H2=>H2=H1 ∧
        chks T G ops F2 H2 (someOps (fun j o=>cp.testBit j&&pureOp T o.op&&enabled A (rem.erase i) j&&!(i::dn).any fun c'=>bit A c' j) ops) ∧
        (chkCs T G C ops F2 H2 (someOps (fun j o=>cp.testBit j&&isCallOp o.op&&enabled A (rem.erase i) j&&!(i::dn).any fun c'=>bit A c' j) ops)∧evPT T G C ops K (treeOf T cp A ops n (i::dn) (rem.erase i)) F2 H2))
         (someOps (fun j o=>free T cp j o&&enabled A (rem.erase i) j&&bit A j i) ops) (aput F o.dst v) H1 →
        evOps T G C ops.toArray K (Region.linearise.go m ops.toArray fuel (t / (Region.ready m ops.toArray listed).length) (listed.setIfInBounds i true) []) (aput fr o.dst v) H1:=by
       intro v H1 h1
       obtain ⟨F2,H2,⟨rfl,hc1,hc2,hgo⟩,hlen,hkeep⟩:=evList_ends hC _ _ _ h1
       have hal : ∀ (L : List AV) (v : AV),(aput L o.dst v).length=L.length:=fun L v=>by cases o.dst<;>simp [aput]
       refine ih _ _ (i::dn) (rem.erase i) _ F2 _ (by simpa using hs) hcnt ⟨hdown,fun c hc=>⟨(hst.rems c (List.mem_of_mem_erase hc)).1,?_⟩,fun c hc hn'=>?_,fun c hc=>?_,hst.nodup.erase i,fun j oj hj hf he hlj=>?_,by rw [hlen']; exact hgo,⟨by rw [hal,hlen,hal,hst.agree.len],fun k hk=>?_⟩⟩
       ·rw [getD_set_ne false (hne c hc)]
        exact (hst.rems c (List.mem_of_mem_erase hc)).2
       ·by_cases h : i=c
        ·subst h; simp [hil]
        ·rw [getD_set_ne false h]
         exact hst.done c hc fun hcr=>hn' ((List.mem_erase_of_ne (Ne.symm h)).2 hcr)
       ·rcases List.mem_cons.1 hc with rfl|hc
        ·exact ⟨hin,by simp [hil]⟩
        ·refine ⟨(hst.dns c hc).1,?_⟩
         by_cases h : i=c
         ·subst h; simp [hil]
         ·rw [getD_set_ne false h]; exact (hst.dns c hc).2
       ·have hij : i≠j:=fun e=>by subst e; rw [ho'] at hj; cases hj; rw [hf] at hfree'; cases hfree'
        rw [getD_set_ne false hij] at hlj
        have hnb : ((i::dn).any fun c'=>bit A c' j)=false:=by
         rw [List.any_eq_false]
         intro c hc hb
         have hl2 : listed.getD j false=true:=by
          rcases List.mem_cons.1 hc with rfl|hc
          ·exact hbits j hb
          ·exact down_bit2 hok1 hbit hst.down c (hst.dns c hc).1 (hst.dns c hc).2 j hb
         rw [hlj] at hl2
         cases hl2
        unfold free at hf
        rw [Bool.and_eq_true,Bool.or_eq_true] at hf
        rcases hf.2 with hp|hp
        ·exact chkC1_of (chks_mem hc1 (mem_someOps.2 ⟨j,hj,by rw [hnb]; simp [hf.1,hp,he]⟩))
        ·exact chkCs_mem hc2 (mem_someOps.2 ⟨j,hj,by rw [hnb]; simp [hf.1,hp,he]⟩)
       ·
        have hnew : ∀ o2∈someOps (fun j o=>free T cp j o&&enabled A (rem.erase i) j&&bit A j i) ops,o2.dst≠some k:=fun o2 ho2 e=>by
         obtain ⟨j2,hj2,hq⟩:=mem_someOps.1 ho2
         simp only [Bool.and_eq_true] at hq
         have hne : i≠j2:=fun e=>by subst e; rw [hself] at hq; cases hq.2
         rcases hk j2 o2 hj2 e with h|h
         ·have:=(hcs j2 o2 hj2).1 h
          rw [hq.1.1] at this
          cases this
         ·rw [getD_set_ne false hne] at h
          have:=down_bit2 hok1 hbit hst.down j2 (List.getElem?_eq_some_iff.1 hj2).1 h i hq.2
          rw [hlf] at this
          cases this
        rw [hkeep k hnew]
        cases hd : o.dst with
        | none =>
          refine hst.agree.all k fun j oj hj hjk=>(hk j oj hj hjk).elim .inl fun hlj=>?_
          by_cases hij : i=j
          ·exact .inl (hij ▸ hic)
          ·rw [getD_set_ne false hij] at hlj; exact .inr hlj
        | some d =>
          simp only [aput_some]
          by_cases hdk : d=k
          ·rw [List.getElem?_set,List.getElem?_set,hst.agree.len,if_pos hdk,if_pos hdk]
          ·rw [List.getElem?_set_ne hdk,List.getElem?_set_ne hdk]
           refine hst.agree.all k fun j oj hj hjk=>(hk j oj hj hjk).elim .inl fun hlj=>?_
           by_cases hij : i=j
           ·exact .inl (hij ▸ hic)
           ·rw [getD_set_ne false hij] at hlj; exact .inr hlj
      unfold evList at hgoes
      by_cases hw : Region.wanted o (ayielded ops.toArray F)=true
      ·rw [if_pos hw] at hgoes ⊢
       exact hop _ (evOp_mono (fun _ _ _ _ _ h hc=>hCm _ _ _ _ _ h hc) (fun v H1 h1=>next v H1 h1) hgoes)
      ·rw [if_neg hw] at hgoes ⊢
       exact next _ H hgoes
def okMasks (A : List Nat) (ops : List Oper) : Bool:=(List.range ops.length).all fun i=>match ops[i]? with|some o=>A[i]?==some (maskOf A o)|none=>false
theorem okMasks_spec (h : okMasks A ops=true) : ∀ i o,ops[i]?=some o→∀ j,bit A i j=true→∃ e∈o.after,isAny e=true∧(e.on=j∨bit A e.on j=true):=fun i o hi j hj=>by
 unfold okMasks at h
 simp only [List.all_eq_true,List.mem_range] at h
 have:=h i (List.getElem?_eq_some_iff.1 hi).1
 rw [hi] at this
 simp only [beq_iff_eq] at this
 refine bit_maskOf ?_
 unfold bit at hj
 rw [List.getD_eq_getElem?_getD,this] at hj
 exact hj
def treeOk (T : TT) (cp gr : Nat) (ops : List Oper) (p0 f1 f2 : List Nat) (pt : PT) : Bool :=
 let A:=masksGo ops []
 let cs:=linksOf (free T cp) ops
 okD cs ops&&okMasks A ops&&okGc ops gr&&decide (p0=idxs (fun i o=>free T cp i o&&enabled A cs i) ops)&&decide (f1=idxs (fun i o=>cp.testBit i&&pureOp T o.op&&enabled A cs i) ops) &&
  decide (f2=idxs (fun i o=>cp.testBit i&&isCallOp o.op&&enabled A cs i) ops)&&pt.same (treeOf T cp A ops cs.length [] cs)
theorem go_tree {mx : Bool} {n : Nat} {fr : List AV} {H : AH} {Q : APost} (id : Nat) (cp gr : Nat) (p0 f1 f2 : List Nat) (pt : PT) (hC : Ends C) (hCm : Mono C) (hok : treeOk T cp gr ops p0 f1 f2 pt=true)
  (h : evList T G C ops.toArray (fun F H'=>H'=H∧chks T G ops F H' (pickOps ops f1)∧(chkCs T G C ops F H' (pickOps ops f2)∧evPT T G C ops (fun fr H=>∃ fr' H',VS n fr H fr' H'∧Q .normal fr' H') pt F H')) (pickOps ops p0) fr H) : ev T G mx C n (.region id ops.toArray true) fr H Q:=by
 unfold treeOk at hok
 simp only [Bool.and_eq_true,decide_eq_true_eq] at hok
 obtain ⟨⟨⟨⟨⟨⟨h1,h2⟩,hgc⟩,rfl⟩,rfl⟩,rfl⟩,h3⟩:=hok
 have h3:=PT.same_eq h3
 subst h3
 simp only [← someOps_idx] at h
 have hmem : ∀ i o,ops[i]?=some o→(i∈linksOf (free T cp) ops↔free T cp i o=false):=fun i o hi=>by
  unfold linksOf
  rw [List.mem_filter,List.mem_range,hi]
  have:=(List.getElem?_eq_some_iff.1 hi).1
  simp [this]
 obtain ⟨F,H',⟨rfl,hc1,hc2,hgoes⟩,hlen,hkeep⟩:=evList_ends hC _ _ _ h
 have hgo : ∀ (m : Region.Mode) (rank : Nat→Nat),Ranked m ops rank→∀ t,evOps T G C ops.toArray (fun fr H=>∃ fr' H',VS n fr H fr' H'∧Q .normal fr' H') (Region.linearise m ops.toArray t) fr H':=fun m rank hr t=>?_
 ·unfold ev
  simp only [if_true]
  intro t
  unfold Region.schedule
  split
  ·exact hgo .any (fun i=>i) (ranked_id (by decide) h1) t
  ·split
   ·exact hgo .text (fun i=>i) (ranked_id (by decide) h1) _
   ·exact hgo .gc _ (ranked_gc hgc) _
 unfold Region.linearise
 have hno : ∀ i,(Array.replicate ops.toArray.size false).getD i false=false:=fun i=>by by_cases hi : i < ops.length<;>simp [hi]
 refine tree_sound m hr hC hCm h1 (okMasks_spec h2) hmem (fun c hc=>?_) _ _ _ [] _ _ F _ (by simp) (by simp) ⟨fun i o _ hl=>?_,fun c hc=>⟨hc,hno c⟩,fun c hc hn'=>absurd hc hn',fun c hc=>by simp at hc,List.Pairwise.filter _ List.nodup_range,fun i o hi hf he _=>?_,hgoes,⟨hlen.symm,fun k hk=>(hkeep k (fun o ho e=>?_)).symm⟩⟩
 ·unfold linksOf at hc
  exact List.mem_range.1 (List.mem_filter.1 hc).1
 ·rw [hno] at hl; cases hl
 ·unfold free at hf
  rw [Bool.and_eq_true,Bool.or_eq_true] at hf
  rcases hf.2 with hp|hp
  ·exact chkC1_of (chks_mem hc1 (mem_someOps.2 ⟨i,hi,by simp [hf.1,hp,he]⟩))
  ·exact chkCs_mem hc2 (mem_someOps.2 ⟨i,hi,by simp [hf.1,hp,he]⟩)
 ·obtain ⟨i,hi,hq⟩:=mem_someOps.1 ho
  simp only [Bool.and_eq_true] at hq
  rcases hk i o hi e with h|h
  ·have:=(hmem i o hi).1 h
   rw [hq.1] at this
   cases this
  ·rw [hno] at h; cases h
end
end Go.Abs
namespace Go.Abs
theorem lows_iff {n : Nat} : ∀ {l : List AV},lows n l=true↔∀ a∈l,a.low n=true
 | []=>by simp [lows]
 | a::l=>by simp [lows,lows_iff (l:=l)]
end Go.Abs
namespace Go.Abs
mutual
def AV.ren (r : Nat→Nat) : AV→AV
 | .ptr l o=>.ptr (r l) o
 | .ref e z l o n s=>.ref e z (r l) o n s
 | .map l=>.map (r l)
 | .lptr cs o=>.lptr (rens r cs) o
 | .lit n e cs l=>.lit n e (rens r cs) l
 | .agg cs=>.agg (rens r cs)
 | .tup cs=>.tup (rens r cs)
 | .fn f a b=>.fn f (rens r a) (rens r b)
 | .iface t v=>.iface t (v.ren r)
 | .own l v n cs len sz=>.own (r l) v n (rens r cs) len sz
 | v=>v
def rens (r : Nat→Nat) : List AV→List AV
 | []=>[]
 | a::l=>a.ren r::rens r l
end
mutual
def AV.refs : AV→List Nat
 | .ptr l _|.ref _ _ l _ _ _|.map l=>[l]
 | .own l _ _ cs _ _=>l::refss cs
 | .lptr cs _|.lit _ _ cs _|.agg cs|.tup cs=>refss cs
 | .fn _ a b=>refss a++refss b
 | .iface _ v=>v.refs
 | _=>[]
def refss : List AV→List Nat
 | []=>[]
 | a::l=>a.refs++refss l
end
def AB.refs : AB→List Nat
 | .cells cs=>refss cs
 | .map es _ _=>refss (es.map (·.1))++refss (es.map (·.2))
 | .iter (some l) _ _ _=>[l]
 | _=>[]
def AB.ren (r : Nat→Nat) : AB→AB
 | .cells cs=>.cells (rens r cs)
 | .map es bs c=>.map (es.map fun e=>(e.1.ren r,e.2.ren r)) bs c
 | .iter (some l) s t u=>.iter (some (r l)) s t u
 | b=>b
theorem rens_map {r : Nat→Nat} : ∀ {l : List AV},rens r l=l.map (·.ren r)
 | []=>rfl
 | a::l=>by simp [rens,rens_map (l:=l)]
theorem ren_cell {r : Nat→Nat} {a : AV} : (a.ren r).isCell=a.isCell:=by cases a<;>rfl
theorem rens_cells {r : Nat→Nat} {l : List AV} (h : ∀ a∈l,a.isCell=true) : ∀ a∈rens r l,a.isCell=true:=by
 intro a ha
 rw [rens_map] at ha
 obtain ⟨b,hb,rfl⟩:=List.mem_map.1 ha
 rw [ren_cell]
 exact h b hb
def Fits (x y : Cx) (r : Nat→Nat) (l : Nat) : Prop:=r l < y.N∧y.at_ (r l)=x.at_ l∧y.ver (r l)=x.ver l∧y.rl (r l)=x.rl l
theorem Cx.Fz.imp {x y : Cx} (hF : ∀ k m,x.F k m→y.F k m) {b m : Nat} (h : x.Fz b m) : y.Fz b m:=Exists.imp (fun _ hq=>⟨hq.1,hF _ _ hq.2⟩) h
theorem rens_len {r : Nat→Nat} {l : List AV} : (rens r l).length=l.length:=by rw [rens_map,List.length_map]
mutual
theorem R.ren {x y : Cx} {r : Nat→Nat} (hF : ∀ k m,x.F k m→y.F k m) (hw : y.w=x.w) : ∀ (a : AV) (v : Value),(∀ l∈a.refs,Fits x y r l)→R x a v→R y (a.ren r) v
 | .bool _,_,_,hr=>by simpa [R,AV.ren] using hr
 | .int _ _,_,_,hr=>by simpa [R,AV.ren] using hr
 | .str _,_,_,hr=>by simpa [R,AV.ren] using hr
 | .nilptr,_,_,hr=>by simpa [R,AV.ren] using hr
 | .ptr l off,v,h,hr=>by
   obtain ⟨h1,h2,h3,_⟩:=h l (by simp [AV.refs])
   simp only [R,AV.ren] at *
   exact ⟨h1,h3.trans hr.2.1,by rw [h2]; exact hr.2.2⟩
 | .lptr cs off,v,h,hr=>by
   simp only [R,AV.ren,AV.refs] at *
   obtain ⟨b,o,vs,e,hf,hl,hk,hc⟩:=hr
   exact ⟨b,o,vs,e,by rw [rens_len]; exact Cx.Fz.imp hF hf,RL.ren hF hw cs vs h hl,rens_cells hk,by rw [hw]; exact hc⟩
 | .lit nl ex cs len,v,h,hr=>by
   simp only [R,AV.ren,AV.refs] at *
   rcases hr with ⟨h1,h3,h4⟩|⟨hn,b,o,cap,vs,e,h1,h2,h3,hl,hk,hf,hc⟩
   ·exact .inl ⟨h1,by rw [h3]; rfl,h4⟩
   ·exact .inr ⟨hn,b,o,cap,vs,e,h1,h2,h3,RL.ren hF hw cs vs h hl,rens_cells hk,hf.imp (fun e=>by rw [e]; rfl) (fun hz=>by rw [rens_len]; exact Cx.Fz.imp hF hz),by rw [hw]; exact hc⟩
 | .ref ex nl l off len sz,v,h,hr=>by
   obtain ⟨h1,h2,h3,_⟩:=h l (by simp [AV.refs])
   simp only [R,AV.ren] at *
   refine ⟨⟨h1,h3.trans hr.1.2⟩,?_⟩
   rw [h2,hw]
   exact hr.2
 | .fn f first caps,v,h,hr=>by
   simp only [R,AV.ren,AV.refs,List.mem_append] at *
   obtain ⟨fs,cs,e,h1,h2⟩:=hr
   exact ⟨fs,cs,e,RL.ren hF hw _ _ (fun l hl=>h l (.inl hl)) h1,RL.ren hF hw _ _ (fun l hl=>h l (.inr hl)) h2⟩
 | .nilfn,_,_,hr=>by simpa [R,AV.ren] using hr
 | .map l,v,h,hr=>by
   obtain ⟨h1,h2,h3,_⟩:=h l (by simp [AV.refs])
   simp only [R,AV.ren] at *
   exact ⟨h1,h3.trans hr.2.1,by rw [h2]; exact hr.2.2⟩
 | .nilmap,_,_,hr=>by simpa [R,AV.ren] using hr
 | .iface t a,v,h,hr=>by
   simp only [R,AV.ren,AV.refs] at *
   obtain ⟨u,e,hu⟩:=hr
   exact ⟨u,e,R.ren hF hw a u h hu⟩
 | .nilif,_,_,hr=>by simpa [R,AV.ren] using hr
 | .agg cs,v,h,hr=>by
   simp only [R,AV.ren,AV.refs] at *
   obtain ⟨hk,vs,e,hl⟩:=hr
   exact ⟨rens_cells hk,vs,e,RL.ren hF hw cs vs h hl⟩
 | .tup cs,v,h,hr=>by
   simp only [R,AV.ren,AV.refs] at *
   obtain ⟨vs,e,hl⟩:=hr
   exact ⟨vs,e,RL.ren hF hw cs vs h hl⟩
 | .own l ver nl cs len sz,v,h,hr=>by
   obtain ⟨h1,h2,h3,h4⟩:=h l (by simp [AV.refs])
   have hcs : ∀ l∈refss cs,Fits x y r l:=fun l hl=>h l (by simp [AV.refs,hl])
   simp only [R,AV.ren] at *
   obtain ⟨⟨_,g0,gv,gs⟩,hr⟩:=hr
   refine ⟨⟨h1,g0,by rw [h3]; exact gv,by rw [rens_len]; exact gs⟩,?_⟩
   rcases hr with ⟨k1,k3,k4⟩|⟨hn,b,o,cap,vs,e,k1,k2,k3,hk,hf,hc,ht⟩
   ·exact .inl ⟨k1,by rw [k3]; rfl,k4⟩
   ·refine .inr ⟨hn,b,o,cap,vs,e,k1,k2,RL.ren hF hw cs vs hcs k3,rens_cells hk,hf.imp (fun e=>by rw [e]; rfl) (fun hz=>by rw [rens_len]; exact Cx.Fz.imp hF hz),by rw [hw]; exact hc,fun hv=>?_⟩
    rw [h2,h4,rens_len,hw]
    rw [h3] at hv
    exact ht hv
 | .any,_,_,hr=>by simpa [R,AV.ren] using hr
theorem RL.ren {x y : Cx} {r : Nat→Nat} (hF : ∀ k m,x.F k m→y.F k m) (hw : y.w=x.w) : ∀ (as : List AV) (vs : List Value),(∀ l∈refss as,Fits x y r l)→RL x as vs→RL y (rens r as) vs
 | [],_,_,hr=>by simpa [RL,rens] using hr
 | a::as,vs,h,hr=>by
   simp only [RL,rens,refss,List.mem_append] at *
   obtain ⟨v,u,e,h1,h2⟩:=hr
   exact ⟨v,u,e,R.ren hF hw a v (fun l hl=>h l (.inl hl)) h1,RL.ren hF hw as u (fun l hl=>h l (.inr hl)) h2⟩
end
def Moved (x y : Cx) (l m : Nat) : Prop:=y.at_ m=x.at_ l∧y.ver m=x.ver l∧y.rl m=x.rl l
theorem HoldsB.ren {x y : Cx} {r : Nat→Nat} (hF : ∀ k m,x.F k m→y.F k m) (hw : y.w=x.w) {l m : Nat} (hm : Moved x y l m) : ∀ {b : AB},(∀ l∈b.refs,Fits x y r l)→HoldsB x l b→HoldsB y m (b.ren r)
 | .cells cs,h,hb=>by
   obtain ⟨h0,c,t,fz,vs,h1,h2,h3,h4,h5,h6⟩:=hb
   obtain ⟨m1,m2,m3⟩:=hm
   refine ⟨m2.trans h0,c,t,fz,vs,?_,h2,RL.ren hF hw _ _ h h3,?_,?_,rens_cells h6⟩<;>rw [m1]
   ·rw [hw]; exact h1
   ·rw [rens_len]; exact h4
   ·exact h5
 | .map es bs clock,h,hb=>by
   simp only [AB.refs,List.mem_append] at h
   obtain ⟨h0,c,h1,h2,h3,h4⟩:=hb
   obtain ⟨m1,m2,m3⟩:=hm
   have e1 : (es.map fun e=>(e.1.ren r,e.2.ren r)).map (·.1)=rens r (es.map (·.1)):=by rw [rens_map]; simp
   have e2 : (es.map fun e=>(e.1.ren r,e.2.ren r)).map (·.2)=rens r (es.map (·.2)):=by rw [rens_map]; simp
   exact ⟨m2.trans h0,c,by rw [m1,hw]; exact h1,by rw [e1]; exact RL.ren hF hw _ _ (fun l hl=>h l (.inl hl)) h2,by rw [e2]; exact RL.ren hF hw _ _ (fun l hl=>h l (.inr hl)) h3,h4⟩
 | .iter src since seen last,h,hb=>by
   obtain ⟨h0,h00,h1,h2⟩:=hb
   obtain ⟨m1,m2,m3⟩:=hm
   cases src with
   | none=>exact ⟨m2.trans h0,by rw [m1]; exact h00,(fun l hl=>by cases hl),by rw [m1,hw]; exact h2⟩
   | some l =>
     obtain ⟨g1,g2,g3,_⟩:=h l (by simp [AB.refs])
     exact ⟨m2.trans h0,by rw [m1]; exact h00,(fun l' hl=>by cases hl; exact ⟨g1,g3.trans (h1 l rfl).2⟩),by rw [m1,hw]; simp only [Option.map_some,g2]; exact h2⟩
 | .room v real,_,hb=>by
   obtain ⟨h0,h1,h2,h3⟩:=hb
   obtain ⟨m1,m2,m3⟩:=hm
   refine ⟨m2.trans h0,h1,m3.trans h2,fun e=>?_⟩
   obtain ⟨c,t,fz,g1,g2,g3⟩:=h3 e
   rw [m1]
   exact ⟨c,t,fz,by rw [hw]; exact g1,g2,g3⟩
 | .dead,_,_=>trivial
theorem ren_live {r : Nat→Nat} {b : AB} : (b.ren r).live=b.live:=by
 cases b with
 | iter src _ _ _=>cases src<;>rfl
 | _=>rfl
theorem ren_room {r : Nat→Nat} {b : AB} : (b.ren r).isRoom=b.isRoom:=by
 cases b with
 | iter src _ _ _=>cases src<;>rfl
 | _=>rfl
def packed (s : List Nat) (H : AH) : AH:=s.map fun o=>(H.getD o .dead).ren s.idxOf
def packOk (n : Nat) (s : List Nat) (fr : List AV) (H : AH) : Bool :=
 decide (s.take n=List.range n)&&decide (n≤s.length)&&decide s.Nodup&&s.all (fun o=>decide (o < H.length))&&(refss fr).all (s.contains ·)&&s.all fun o=>((H.getD o .dead).refs).all (s.contains ·)
theorem VS.pack {n : Nat} {s : List Nat} {fr : List AV} {H : AH} (h : packOk n s fr H=true) : VS n fr H (rens s.idxOf fr) (packed s H):=by
 unfold packOk at h
 simp only [Bool.and_eq_true,decide_eq_true_eq,List.all_eq_true,List.contains_eq_mem] at h
 obtain ⟨⟨⟨⟨⟨h1,h2⟩,h3⟩,h4⟩,h5⟩,h6⟩:=h
 intro x vs hr hn hl
 let y : Cx:={ at_:=fun m=>x.at_ (s.getD m 0),ver:=fun m=>x.ver (s.getD m 0),rl:=fun m=>x.rl (s.getD m 0),F:=x.F,N:=s.length,w:=x.w }
 have hfits : ∀ l∈s,Fits x y s.idxOf l:=fun l hm=>by
  have hlt : s.idxOf l < s.length:=List.idxOf_lt_length_of_mem hm
  have hg : s.getD (s.idxOf l) 0=l:=by rw [List.getD_eq_getElem?_getD,List.getElem?_eq_getElem hlt,Option.getD_some,List.getElem_idxOf]
  exact ⟨hlt,congrArg x.at_ hg,congrArg x.ver hg,congrArg x.rl hg⟩
 have hblock : ∀ m b,(packed s H)[m]?=some b→∃ o b',s[m]?=some o∧H[o]?=some b'∧b=b'.ren s.idxOf∧o∈s:=fun m b hb=>by
  unfold packed at hb
  rw [List.getElem?_map,Option.map_eq_some_iff] at hb
  obtain ⟨o,ho,rfl⟩:=hb
  have hom:=List.mem_of_getElem? ho
  refine ⟨o,H.getD o .dead,ho,?_,rfl,hom⟩
  rw [List.getD_eq_getElem?_getD,List.getElem?_eq_getElem (h4 o hom)]
  rfl
 have hlive : ∀ m,Live (packed s H) m→∃ o,s[m]?=some o∧Live H o∧y.at_ m=x.at_ o:=fun m ⟨b,hb,hbl⟩=>by
  obtain ⟨o,b',ho,hb',rfl,hom⟩:=hblock m b hb
  rw [ren_live] at hbl
  exact ⟨o,ho,⟨b',hb',hbl⟩,by show x.at_ (s.getD m 0)=_; rw [List.getD_eq_getElem?_getD,ho]; rfl⟩
 have hpre : ∀ l,l < n→s.getD l 0=l:=fun l hl'=>by
  have : (s.take n)[l]?=some l:=by rw [h1,List.getElem?_range hl']
  rw [List.getElem?_take_of_lt hl'] at this
  rw [List.getD_eq_getElem?_getD,this]
  rfl
 refine ⟨y,rfl,⟨fun l hl' _=>⟨congrArg x.at_ (hpre l hl'),congrArg x.rl (hpre l hl')⟩,fun l hl'=>by show x.ver l≤x.ver (s.getD l 0)∧(x.ver l=0→x.ver (s.getD l 0)=0); rw [hpre l hl']; exact ⟨Nat.le_refl _,id⟩,hn,h2,fun _ _ h=>h,fun _ _ _ _ _=>rfl,fun _ _ h=>h,Nat.le_refl _,rfl,rfl,rfl,fun _ _ _=>rfl,?_,fun _ _ h=>.inl h⟩,⟨by simp [packed,y],?_,?_,?_,hr.Flt⟩,?_⟩
 ·rintro k ⟨m,hm,rfl⟩
  obtain ⟨o,_,hol,he⟩:=hlive m hm
  exact .inl ⟨o,hol,by rw [he]⟩
 ·intro m b hb
  obtain ⟨o,b',ho,hb',rfl,hom⟩:=hblock m b hb
  have hg : s.getD m 0=o:=by rw [List.getD_eq_getElem?_getD,ho]; rfl
  refine HoldsB.ren (x:=x) (y:=y) (fun _ _ h=>h) rfl ⟨congrArg x.at_ hg,congrArg x.ver hg,congrArg x.rl hg⟩ (fun l hl'=>hfits l ?_) (hr.block o b' hb')
  have:=h6 o hom l (by rw [List.getD_eq_getElem?_getD,hb']; exact hl')
  exact this
 ·intro l m h1' h2' he
  obtain ⟨o,ho,hol,e1⟩:=hlive l h1'
  obtain ⟨q,hq,hql,e2⟩:=hlive m h2'
  rw [e1,e2] at he
  have:=hr.inj o q hol hql he
  subst this
  exact (List.getElem?_inj (List.getElem?_eq_some_iff.1 ho).1 h3).1 (ho.trans hq.symm)
 ·intro m b hb hbl k hf
  obtain ⟨o,b',ho,hb',rfl,hom⟩:=hblock m b hb
  have hg : y.at_ m=x.at_ o:=congrArg x.at_ (by rw [List.getD_eq_getElem?_getD,ho]; rfl)
  rw [ren_live] at hbl
  rw [ren_room]
  rw [hg] at hf ⊢
  exact hr.notF o b' hb' hbl k hf
 ·exact RL.ren (x:=x) (y:=y) (fun _ _ h=>h) rfl fr vs (fun l hl'=>hfits l (h5 l hl')) hl
end Go.Abs
namespace Go.Abs
mutual
theorem refs_ren {f : Nat→Nat} : ∀ (a : AV),(a.ren f).refs=a.refs.map f
 | .bool _|.int _ _|.str _|.nilptr|.nilfn|.nilmap|.nilif|.any|.ptr _ _|.ref _ _ _ _ _ _|.map _=>rfl
 | .lptr cs _=>refss_rens cs
 | .lit _ _ cs _=>refss_rens cs
 | .agg cs=>refss_rens cs
 | .tup cs=>refss_rens cs
 | .fn _ a b=>by simp only [AV.ren,AV.refs,List.map_append]; rw [refss_rens a,refss_rens b]
 | .iface _ v=>refs_ren v
 | .own l _ _ cs _ _=>by simp only [AV.ren,AV.refs,List.map_cons]; rw [refss_rens cs]
theorem refss_rens {f : Nat→Nat} : ∀ (l : List AV),refss (rens f l)=(refss l).map f
 | []=>rfl
 | a::l=>by simp only [rens,refss,List.map_append,refs_ren a,refss_rens l]
end
theorem refsB_ren {f : Nat→Nat} {b : AB} : (b.ren f).refs=b.refs.map f:=by
 cases b with
 | cells cs=>exact refss_rens cs
 | map es bs c =>
   simp only [AB.ren,AB.refs,List.map_append]
   have e1 : (es.map fun e=>(e.1.ren f,e.2.ren f)).map (·.1)=rens f (es.map (·.1)):=by rw [rens_map]; simp
   have e2 : (es.map fun e=>(e.1.ren f,e.2.ren f)).map (·.2)=rens f (es.map (·.2)):=by rw [rens_map]; simp
   rw [e1,e2,refss_rens,refss_rens]
 | iter src a b c=>cases src<;>rfl
 | _=>rfl
theorem refss_rens_mem {f : Nat→Nat} {m : Nat} {s : List Nat} (a : List AV) (h : ∀ l∈refss a,l < m) (hs : ∀ l,l < m→f l∈s) : ∀ l∈refss (rens f a),l∈s:=fun l hl=>by
 rw [refss_rens,List.mem_map] at hl
 obtain ⟨k,hk,rfl⟩:=hl
 exact hs k (h k hk)
theorem refsB_ren_mem {f : Nat→Nat} {m : Nat} {s : List Nat} {b : AB} (h : ∀ l∈b.refs,l < m) (hs : ∀ l,l < m→f l∈s) : ∀ l∈(b.ren f).refs,l∈s:=fun l hl=>by
 rw [refsB_ren,List.mem_map] at hl
 obtain ⟨k,hk,rfl⟩:=hl
 exact hs k (h k hk)
mutual
theorem low_refs_aux : ∀ (a : AV),a.low 0=true→a.refs=[]
 | .bool _,_|.int _ _,_|.str _,_|.nilptr,_|.nilfn,_|.nilmap,_|.nilif,_|.any,_=>rfl
 | .ptr _ _,h|.ref _ _ _ _ _ _,h|.map _,h|.own _ _ _ _ _ _,h=>by simp [AV.low] at h
 | .lptr cs _,h=>lows_refs cs (by simpa [AV.low] using h)
 | .lit _ _ cs _,h=>lows_refs cs (by simpa [AV.low] using h)
 | .agg cs,h=>lows_refs cs (by simpa [AV.low] using h)
 | .tup cs,h=>lows_refs cs (by simpa [AV.low] using h)
 | .fn _ a b,h=>by
   simp only [AV.low,Bool.and_eq_true] at h
   simp only [AV.refs]
   rw [lows_refs a h.1,lows_refs b h.2]
   rfl
 | .iface _ v,h=>low_refs_aux v (by simpa [AV.low] using h)
theorem lows_refs : ∀ (l : List AV),lows 0 l=true→refss l=[]
 | [],_=>rfl
 | a::l,h=>by
   simp only [lows,Bool.and_eq_true] at h
   simp only [refss,low_refs_aux a h.1,lows_refs l h.2,List.append_nil]
end
mutual
theorem ren_noref {f : Nat→Nat} : ∀ (a : AV),a.refs=[]→a.ren f=a
 | .bool _,_|.int _ _,_|.str _,_|.nilptr,_|.nilfn,_|.nilmap,_|.nilif,_|.any,_=>rfl
 | .ptr _ _,h|.ref _ _ _ _ _ _,h|.map _,h|.own _ _ _ _ _ _,h=>by simp [AV.refs] at h
 | .lptr cs _,h=>by simp only [AV.ren]; rw [rens_noref cs h]
 | .lit _ _ cs _,h=>by simp only [AV.ren]; rw [rens_noref cs h]
 | .agg cs,h=>by simp only [AV.ren]; rw [rens_noref cs h]
 | .tup cs,h=>by simp only [AV.ren]; rw [rens_noref cs h]
 | .fn _ a b,h=>by
   simp only [AV.refs,List.append_eq_nil_iff] at h
   simp only [AV.ren]
   rw [rens_noref a h.1,rens_noref b h.2]
 | .iface _ v,h=>by simp only [AV.ren]; rw [ren_noref v h]
theorem rens_noref {f : Nat→Nat} : ∀ (l : List AV),refss l=[]→rens f l=l
 | [],_=>rfl
 | a::l,h=>by
   simp only [refss,List.append_eq_nil_iff] at h
   simp only [rens]
   rw [ren_noref a h.1,rens_noref l h.2]
end
theorem ren_low {f : Nat→Nat} {a : AV} (h : a.low 0=true) : a.ren f=a:=ren_noref a (low_refs_aux a h)
theorem rens_low {l : List AV} (h : lows 0 l=true) (f : Nat→Nat) : rens f l=l:=rens_noref l (lows_refs l h)
theorem EvCall.vs {P : Program} {T : TT} {G : Nat→Option (List AV)} {f : FuncId} {args : List AV} {H : AH} {k0 k : AV→AH→Prop} (h : EvCall P T G f args H k0) (hk : ∀ r H1,k0 r H1→∃ r' H2,VS H.length [r] H1 [r'] H2∧k r' H2) : EvCall P T G f args H k:=by
 refine ⟨h.1.elim fun v h1=>h1.elim fun H' h2=>(hk _ _ h2).elim fun r' h3=>h3.elim fun H2 h4=>⟨r',H2,h4.2⟩,fun hT=>?_⟩
 obtain ⟨h1,h2⟩:=h.2 hT
 refine ⟨h1,fun x vs hr hl hG=>(h2 x vs hr hl hG).mono ?_⟩
 rintro e w' ⟨v,r,H1,y,rfl,hk0,rfl,hm,hry,hv⟩
 obtain ⟨r',H2,hvs,hk'⟩:=hk _ _ hk0
 obtain ⟨z,ez,hm2,hrz,hlz⟩:=hvs y [v] hry (by rw [← hr.N]; exact hm.N) ⟨v,[],rfl,hv,rfl⟩
 simp only [RL] at hlz
 obtain ⟨_,_,e1,h3,rfl⟩:=hlz
 cases e1
 exact ⟨v,r',H2,z,rfl,hk',ez,hm.trans (by rw [hr.N]; exact hm2),hrz,h3⟩
theorem EvCall.weaken {P : Program} {T : TT} {G : Nat→Option (List AV)} {f : FuncId} {args args' : List AV} {H : AH} {k : AV→AH→Prop} (hi : ImpL args args') (h : EvCall P T G f args' H k) : EvCall P T G f args H k :=
 ⟨h.1,fun hT=>⟨(h.2 hT).1,fun x vs hr hl hG=>(h.2 hT).2 x vs hr (hi.rl hl) hG⟩⟩
mutual
theorem ren_ren {f g : Nat→Nat} : ∀ (a : AV),(∀ l∈a.refs,g (f l)=l)→(a.ren f).ren g=a
 | .bool _,_|.int _ _,_|.str _,_|.nilptr,_|.nilfn,_|.nilmap,_|.nilif,_|.any,_=>rfl
 | .ptr l o,h=>by simp only [AV.ren]; rw [h l (by simp [AV.refs])]
 | .ref e z l o n s,h=>by simp only [AV.ren]; rw [h l (by simp [AV.refs])]
 | .map l,h=>by simp only [AV.ren]; rw [h l (by simp [AV.refs])]
 | .lptr cs o,h=>by simp only [AV.ren]; rw [rens_rens cs h]
 | .lit n e cs l,h=>by simp only [AV.ren]; rw [rens_rens cs h]
 | .agg cs,h=>by simp only [AV.ren]; rw [rens_rens cs h]
 | .tup cs,h=>by simp only [AV.ren]; rw [rens_rens cs h]
 | .fn p a b,h=>by simp only [AV.ren]; rw [rens_rens a fun l hl=>h l (by simp [AV.refs,hl]),rens_rens b fun l hl=>h l (by simp [AV.refs,hl])]
 | .iface t v,h=>by simp only [AV.ren]; rw [ren_ren v h]
 | .own l v n cs len sz,h=>by simp only [AV.ren]; rw [h l (by simp [AV.refs]),rens_rens cs fun l hl=>h l (by simp [AV.refs,hl])]
theorem rens_rens {f g : Nat→Nat} : ∀ (l : List AV),(∀ k∈refss l,g (f k)=k)→rens g (rens f l)=l
 | [],_=>rfl
 | a::l,h=>by simp only [rens]; rw [ren_ren a fun k hk=>h k (by simp [refss,hk]),rens_rens l fun k hk=>h k (by simp [refss,hk])]
end
theorem renB_renB {f g : Nat→Nat} {b : AB} (h : ∀ l∈b.refs,g (f l)=l) : (b.ren f).ren g=b:=by
 cases b with
 | cells cs=>simp only [AB.ren]; rw [rens_rens cs h]
 | map es bs c =>
   simp only [AB.ren,List.map_map]
   congr 1
   conv=>rhs; rw [← List.map_id es]
   refine List.map_congr_left fun e he=>?_
   simp only [AB.refs,List.mem_append] at h
   have hm : ∀ (l : List AV) (a : AV),a∈l→∀ k∈a.refs,k∈refss l:=by
    intro l
    induction l with
    | nil=>intro a ha; simp at ha
    | cons b l ih =>
      intro a ha k hk
      rcases List.mem_cons.1 ha with rfl|ha
      ·simp [refss,hk]
      ·simp [refss,ih a ha k hk]
   refine Prod.ext ?_ ?_
   ·exact ren_ren e.1 fun k hk=>h k (.inl (hm _ _ (List.mem_map.2 ⟨e,he,rfl⟩) k hk))
   ·exact ren_ren e.2 fun k hk=>h k (.inr (hm _ _ (List.mem_map.2 ⟨e,he,rfl⟩) k hk))
 | iter src a b c =>
   cases src with
   | none=>rfl
   | some l=>simp only [AB.ren]; rw [h l (by simp [AB.refs])]
 | _=>rfl
def Placed (r : Nat→Nat) (H : AH) : List Nat→AH→Prop
 | [],[]=>True
 | i::s,b::h=>H[i]?=some (b.ren r)∧Placed r H s h
 | _,_=>False
theorem Placed.get {r : Nat→Nat} {H : AH} : ∀ {s : List Nat} {h : AH},Placed r H s h→s.length=h.length∧∀ (i : Nat) (b : AB),h[i]?=some b→∃ o,s[i]?=some o∧H[o]?=some (b.ren r)
 | [],[],_=>⟨rfl,fun i b hb=>by simp at hb⟩
 | [],_::_,h=>h.elim
 | _::_,[],h=>h.elim
 | o::s,b::h,hp=>by
   obtain ⟨h1,h2⟩:=Placed.get hp.2
   refine ⟨by simp [h1],fun i b hb=>?_⟩
   cases i with
   | zero=>simp at hb; subst hb; exact ⟨o,rfl,hp.1⟩
   | succ i=>simpa using h2 i b (by simpa using hb)
def putBack (r : Nat→Nat) (H : AH) : List Nat→AH→AH
 | i::s,b::h=>putBack r (H.set i (b.ren r)) s h
 | _,_=>H
theorem putBack_len {r : Nat→Nat} : ∀ {s : List Nat} {h H : AH},(putBack r H s h).length=H.length
 | [],_,_=>by simp [putBack]
 | _::_,[],_=>by simp [putBack]
 | i::s,b::h,H=>by simp [putBack,putBack_len (s:=s) (h:=h)]
theorem putBack_other {r : Nat→Nat} : ∀ {s : List Nat} {h H : AH} {j : Nat},j ∉ s→(putBack r H s h)[j]?=H[j]?
 | [],_,_,_,_=>by simp [putBack]
 | _::_,[],_,_,_=>by simp [putBack]
 | i::s,b::h,H,j,hj=>by
   simp only [List.mem_cons,not_or] at hj
   simp only [putBack]
   rw [putBack_other hj.2,List.getElem?_set_ne (Ne.symm hj.1)]
theorem putBack_at {r : Nat→Nat} : ∀ {s : List Nat} {h H : AH},s.Nodup→(∀ o∈s,o < H.length)→∀ {i o : Nat} {b : AB},s[i]?=some o→h[i]?=some b→(putBack r H s h)[o]?=some (b.ren r)
 | [],_,_,_,_,_,_,_,hs,_=>by simp at hs
 | _::_,[],_,_,_,_,_,_,_,hb=>by simp at hb
 | a::s,c::h,H,hn,hl,i,o,b,hs,hb=>by
   simp only [List.nodup_cons] at hn
   simp only [putBack]
   cases i with
   | zero =>
     simp at hs hb
     subst hs hb
     rw [putBack_other hn.1,List.getElem?_set_self (hl _ (by simp))]
   | succ i=>exact putBack_at hn.2 (fun o ho=>by simpa using hl o (by simp [ho])) (by simpa using hs) (by simpa using hb)
def closedUnder (m : Nat) (r : AV) (h : AH) : Prop:=(∀ l∈r.refs,l < m)∧∀ b∈h,∀ l∈b.refs,l < m
def posOf (H : AH) (s : List Nat) (h : AH) : List Nat:=s++(List.range (h.length - s.length)).map (H.length+·)
def back (H : AH) (s : List Nat) (h : AH) (i : Nat) : Nat:=(posOf H s h).getD i 0
def whole (H : AH) (s : List Nat) (h : AH) : AH:=putBack (back H s h) (H++List.replicate (h.length - s.length) .dead) (posOf H s h) h
theorem EvCall.frame {P : Program} {T : TT} {G : Nat→Option (List AV)} {f : FuncId} (s : List Nat) {args args0 : List AV} {H h0 : AH} {k0 k : AV→AH→Prop} (hnd : s.Nodup) (ha : rens (s.getD · 0) args0=args) (hH : Placed (s.getD · 0) H s h0)
  (hca : ∀ l∈refss args0,l < s.length) (hch : ∀ b∈h0,∀ l∈b.refs,l < s.length) (h : EvCall P T G f args0 h0 k0) (hend : ∀ r h1,k0 r h1→s.length≤h1.length∧closedUnder h1.length r h1)
  (hk : ∀ r h1,k0 r h1→k (r.ren (back H s h1)) (whole H s h1)) : EvCall P T G f args H k:=by
 refine ⟨h.1.elim fun v h1=>h1.elim fun H' h2=>⟨_,_,hk _ _ h2⟩,fun hT=>?_⟩
 obtain ⟨h1,h2⟩:=h.2 hT
 refine ⟨h1,fun x vs hr hl hG=>?_⟩
 obtain ⟨hlen,hget⟩:=hH.get
 have hsl : ∀ o∈s,o < H.length:=fun o ho=>by
  obtain ⟨i,hi⟩:=List.getElem?_of_mem ho
  have hil : i < h0.length:=by have:=(List.getElem?_eq_some_iff.1 hi).1; omega
  obtain ⟨o',ho',hb⟩:=hget i h0[i] (List.getElem?_eq_getElem hil)
  rw [hi] at ho'
  cases ho'
  exact (List.getElem?_eq_some_iff.1 hb).1
 have hgd : ∀ {i o : Nat},s[i]?=some o→s.getD i 0=o:=fun h=>by rw [List.getD_eq_getElem?_getD,h]; rfl
 have hidx : ∀ {i o : Nat},s[i]?=some o→s.idxOf o=i:=fun {i o} h=>by
  have ho:=List.mem_of_getElem? h
  have hlt:=List.idxOf_lt_length_of_mem ho
  have : s[s.idxOf o]?=some o:=by rw [List.getElem?_eq_getElem hlt,List.getElem_idxOf]
  exact (List.getElem?_inj hlt hnd).1 (this.trans h.symm)
 have hback : ∀ l,l < s.length→s.idxOf (s.getD l 0)=l:=fun l hl=>hidx (by rw [List.getD_eq_getElem?_getD,List.getElem?_eq_getElem hl]; rfl)
 let x0 : Cx:={ at_:=fun m=>x.at_ (s.getD m 0),ver:=fun m=>x.ver (s.getD m 0),rl:=fun m=>x.rl (s.getD m 0),F:=x.F,N:=s.length,w:=x.w }
 have hfits0 : ∀ o∈s,Fits x x0 s.idxOf o:=fun o ho=>by
  obtain ⟨i,hi⟩:=List.getElem?_of_mem ho
  have hg : s.getD (s.idxOf o) 0=o:=by rw [hidx hi]; exact hgd hi
  exact ⟨List.idxOf_lt_length_of_mem ho,congrArg x.at_ hg,congrArg x.ver hg,congrArg x.rl hg⟩
 have hrefs : ∀ l,l < s.length→s.getD l 0∈s:=fun l hl=>by rw [List.getD_eq_getElem?_getD,List.getElem?_eq_getElem hl]; exact List.getElem_mem hl
 have hl0 : RL x0 args0 vs:=by
  have:=RL.ren (x:=x) (y:=x0) (r:=s.idxOf) (fun _ _ h=>h) rfl args vs (fun l hl'=>hfits0 l (by rw [← ha] at hl'; exact refss_rens_mem args0 hca hrefs l hl')) hl
  rw [← ha,rens_rens args0 fun l hl'=>hback l (hca l hl')] at this
  exact this
 have hblk : ∀ i b,h0[i]?=some b→∃ o,s[i]?=some o∧H[o]?=some (b.ren (s.getD · 0))∧s.getD i 0=o∧b∈h0:=fun i b hb=>by
  obtain ⟨o,ho,hb'⟩:=hget i b hb
  exact ⟨o,ho,hb',hgd ho,List.mem_of_getElem? hb⟩
 have hlive0 : ∀ m,Live h0 m→∃ o,s[m]?=some o∧Live H o∧x0.at_ m=x.at_ o:=fun m ⟨b,hb,hbl⟩=>by
  obtain ⟨o,ho,hb',hg,_⟩:=hblk m b hb
  exact ⟨o,ho,⟨_,hb',by rw [ren_live]; exact hbl⟩,congrArg x.at_ hg⟩
 have hr0 : Rel x0 h0:=by
  refine ⟨hlen,fun i b hb=>?_,fun l m hl hm he=>?_,fun m b hb hbl q hf=>?_,hr.Flt⟩
  ·obtain ⟨o,ho,hb',hg,hbm⟩:=hblk i b hb
   have:=HoldsB.ren (x:=x) (y:=x0) (r:=s.idxOf) (fun _ _ h=>h) rfl (l:=o) (m:=i) ⟨congrArg x.at_ hg,congrArg x.ver hg,congrArg x.rl hg⟩ (fun l hl'=>hfits0 l (refsB_ren_mem (hch b hbm) hrefs l hl')) (hr.block o _ hb')
   rw [renB_renB fun l hl'=>hback l (hch b hbm l hl')] at this
   exact this
  ·obtain ⟨o,ho,hol,e1⟩:=hlive0 l hl
   obtain ⟨q,hq,hql,e2⟩:=hlive0 m hm
   rw [e1,e2] at he
   have:=hr.inj o q hol hql he
   subst this
   rw [← hidx ho,← hidx hq]
  ·obtain ⟨o,ho,hb',hg,hbm⟩:=hblk m b hb
   have e1 : x0.at_ m=x.at_ o:=congrArg x.at_ hg
   rw [e1] at hf ⊢
   have:=hr.notF o _ hb' (by rw [ren_live]; exact hbl) q hf
   rw [ren_room] at this
   exact this
 refine (h2 x0 vs hr0 hl0 hG).mono ?_
 rintro e w' ⟨v,r0,h1',y,rfl,hk0,rfl,hm,hry,hv⟩
 obtain ⟨hl1,hcr,hch1⟩:=hend _ _ hk0
 generalize hs' : posOf H s h1'=s'
 generalize he' : h1'.length - s.length=e
 have hb' : back H s h1'=(s'.getD · 0):=by funext i; unfold back; rw [hs']
 have hw' : whole H s h1'=putBack (s'.getD · 0) (H++List.replicate e .dead) s' h1':=by unfold whole; rw [hb',hs',he']
 have hs1 : s'=s++(List.range e).map (H.length+·):=by rw [← hs',← he']; rfl
 have hlen' : s'.length=h1'.length:=by rw [hs1]; simp; omega
 have hmem : ∀ j,j∈s'↔j∈s∨(H.length≤j∧j < H.length+e):=fun j=>by
  rw [hs1,List.mem_append,List.mem_map]
  refine or_congr Iff.rfl ⟨fun ⟨a,ha,e1⟩=>?_,fun h=>⟨j - H.length,?_,by omega⟩⟩
  ·have:=List.mem_range.1 ha; omega
  ·exact List.mem_range.2 (by omega)
 have hold' : ∀ j,j < H.length→(j∈s'↔j∈s):=fun j hj=>by rw [hmem]; exact ⟨fun h=>h.elim id fun h=>by omega,.inl⟩
 have hnd' : s'.Nodup:=by
  rw [hs1,List.nodup_append]
  refine ⟨hnd,?_,fun a ha b hb=>?_⟩
  ·exact List.Pairwise.map _ (fun a b h=>by omega) List.nodup_range
  ·have h1:=hsl a ha
   obtain ⟨c,_,rfl⟩:=List.mem_map.1 hb
   omega
 have hsl' : ∀ o∈s',o < (H++List.replicate e AB.dead).length:=fun o ho=>by
  rw [List.length_append,List.length_replicate]
  rcases (hmem o).1 ho with h|h
  ·have:=hsl o h; omega
  ·omega
 have hgd' : ∀ {i o : Nat},s'[i]?=some o→s'.getD i 0=o:=fun h=>by rw [List.getD_eq_getElem?_getD,h]; rfl
 have hidx' : ∀ {i o : Nat},s'[i]?=some o→s'.idxOf o=i:=fun {i o} h=>by
  have ho:=List.mem_of_getElem? h
  have hlt:=List.idxOf_lt_length_of_mem ho
  have : s'[s'.idxOf o]?=some o:=by rw [List.getElem?_eq_getElem hlt,List.getElem_idxOf]
  exact (List.getElem?_inj hlt hnd').1 (this.trans h.symm)
 have hpre : ∀ {i o : Nat},s[i]?=some o→s'[i]?=some o:=fun {i o} h=>by
  rw [hs1,List.getElem?_append_left (List.getElem?_eq_some_iff.1 h).1]; exact h
 let z : Cx:={ at_:=fun j=>if j∈s' then y.at_ (s'.idxOf j) else x.at_ j,ver:=fun j=>if j∈s' then y.ver (s'.idxOf j) else x.ver j,rl:=fun j=>if j∈s' then y.rl (s'.idxOf j) else x.rl j,F:=y.F,N:=x.N+e,w:=y.w }
 have zin : ∀ {i o : Nat},s'[i]?=some o→z.at_ o=y.at_ i∧z.ver o=y.ver i∧z.rl o=y.rl i:=fun {i o} h=>by
  have ho:=List.mem_of_getElem? h
  simp only [z,ho,if_true,hidx' h,and_self]
 have zout : ∀ {j : Nat},j ∉ s'→z.at_ j=x.at_ j∧z.ver j=x.ver j∧z.rl j=x.rl j:=fun {j} h=>by simp only [z,h,if_false,and_self]
 have hown0 : ∀ b,Own x0 h0 b→∃ o∈s,Live H o∧(x.at_ o).1=b:=fun b ⟨l,hl',e⟩=>by
  obtain ⟨o,ho,hol,e1⟩:=hlive0 l hl'
  exact ⟨o,List.mem_of_getElem? ho,hol,by rw [← e1]; exact e⟩
 have hownx : ∀ b,Own x0 h0 b→Own x H b:=fun b hb=>by
  obtain ⟨o,_,hol,e⟩:=hown0 b hb
  exact ⟨o,hol,e⟩
 have hsame : ∀ b,b < x.w.heap.size→¬ Own x0 h0 b→y.w.heap[b]?=x.w.heap[b]?:=fun b hb ho=>hm.frame b hb ho
 have hkeep : Keeps x z:=by
  refine ⟨fun l hlN e1=>?_,fun l hlN=>?_,Nat.le_add_right _ _,hm.F,hm.same,hm.sz⟩
  ·by_cases hls : l∈s
   ·obtain ⟨i,hi⟩:=List.getElem?_of_mem hls
    obtain ⟨z1,z2,z3⟩:=zin (hpre hi)
    rw [z2] at e1
    have hil : i < s.length:=(List.getElem?_eq_some_iff.1 hi).1
    have g:=hm.at_ i hil (by rw [e1]; exact (congrArg x.ver (hgd hi)).symm)
    rw [z1,z3]
    exact ⟨g.1.trans (congrArg x.at_ (hgd hi)),g.2.trans (congrArg x.rl (hgd hi))⟩
   ·have hls' : l ∉ s':=fun h=>hls ((hold' l (by rw [← hr.N]; exact hlN)).1 h)
    exact ⟨(zout hls').1,(zout hls').2.2⟩
  ·by_cases hls : l∈s
   ·obtain ⟨i,hi⟩:=List.getElem?_of_mem hls
    obtain ⟨z1,z2,z3⟩:=zin (hpre hi)
    have hil : i < s.length:=(List.getElem?_eq_some_iff.1 hi).1
    have g:=hm.ver i hil
    have e1 : x0.ver i=x.ver l:=congrArg x.ver (hgd hi)
    rw [e1] at g
    rw [z2]
    exact g
   ·have hls' : l ∉ s':=fun h=>hls ((hold' l (by rw [← hr.N]; exact hlN)).1 h)
    rw [(zout hls').2.1]; exact ⟨Nat.le_refl _,id⟩
 have hH'in : ∀ {i o : Nat} {b : AB},s'[i]?=some o→h1'[i]?=some b→(whole H s h1')[o]?=some (b.ren (s'.getD · 0)):=fun h1 h2=>by rw [hw']; exact putBack_at hnd' hsl' h1 h2
 have hcase : ∀ j b,(whole H s h1')[j]?=some b→(∃ (i : Nat) (b1 : AB),s'[i]?=some j∧h1'[i]?=some b1∧b=b1.ren (s'.getD · 0))∨(j ∉ s'∧H[j]?=some b):=fun j b hb=>by
  by_cases hj : j∈s'
  ·obtain ⟨i,hi⟩:=List.getElem?_of_mem hj
   have hil : i < h1'.length:=by have:=(List.getElem?_eq_some_iff.1 hi).1; omega
   have h3:=hH'in hi (List.getElem?_eq_getElem hil)
   rw [hb] at h3
   cases h3
   exact .inl ⟨i,_,hi,List.getElem?_eq_getElem hil,rfl⟩
  ·rw [hw',putBack_other hj] at hb
   refine .inr ⟨hj,?_⟩
   rcases Nat.lt_or_ge j H.length with h|h
   ·rwa [List.getElem?_append_left h] at hb
   ·have hlt:=(List.getElem?_eq_some_iff.1 hb).1
    rw [List.length_append,List.length_replicate] at hlt
    exact absurd ((hmem j).2 (.inr ⟨h,hlt⟩)) hj
 have hLive : ∀ j,Live (whole H s h1') j→(∃ i,s'[i]?=some j∧Live h1' i∧z.at_ j=y.at_ i)∨(j ∉ s'∧Live H j∧z.at_ j=x.at_ j):=fun j ⟨b,hb,hbl⟩=>by
  rcases hcase j b hb with ⟨i,b1,h3,h4,rfl⟩|⟨h3,h4⟩
  ·rw [ren_live] at hbl
   exact .inl ⟨i,h3,⟨b1,h4,hbl⟩,(zin h3).1⟩
  ·exact .inr ⟨h3,⟨b,h4,hbl⟩,(zout h3).1⟩
 have hownz : ∀ b,Own z (whole H s h1') b→Own x H b∨x.w.heap.size≤b:=fun b ⟨j,hj,e⟩=>by
  rcases hLive j hj with ⟨i,h3,h4,e1⟩|⟨h3,h4,e1⟩
  ·rw [e1] at e
   exact (hm.own b ⟨i,h4,e⟩).imp (hownx b) id
  ·rw [e1] at e
   exact .inl ⟨j,h4,e⟩
 have hzN : z.N=(whole H s h1').length:=by
  rw [hw',putBack_len,List.length_append,List.length_replicate,← hr.N]
 have hfz : ∀ {i : Nat},i < h1'.length→Fits y z (s'.getD · 0) i:=fun {i} hi=>by
  have hsi : s'[i]?=some s'[i]:=List.getElem?_eq_getElem (by omega)
  obtain ⟨z1,z2,z3⟩:=zin hsi
  have hg:=hgd' hsi
  refine ⟨?_,?_,?_,?_⟩
  ·show s'.getD i 0 < x.N+e
   rw [hg,hr.N]
   have:=hsl' _ (List.mem_of_getElem? hsi)
   rwa [List.length_append,List.length_replicate] at this
  ·show z.at_ (s'.getD i 0)=_
   rw [hg,z1]
  ·show z.ver (s'.getD i 0)=_
   rw [hg,z2]
  ·show z.rl (s'.getD i 0)=_
   rw [hg,z3]
 have hapart : ∀ {i j : Nat},j ∉ s'→Live H j→Live h1' i→(y.at_ i).1≠(x.at_ j).1:=fun {i j} hj hjl hil e=>by
  have hlt:=Own.lt hr ⟨j,hjl,rfl⟩
  rcases hm.own _ ⟨i,hil,rfl⟩ with ho|ho
  ·obtain ⟨o,hos,hol,e2⟩:=hown0 _ ho
   have:=hr.inj o j hol hjl (e2.trans e)
   exact hj ((hmem j).2 (.inl (this ▸ hos)))
  ·rw [e] at ho
   exact absurd hlt (Nat.not_lt.2 ho)
 refine ⟨v,_,_,z,rfl,hk _ _ hk0,rfl,?_,?_,?_⟩
 ·exact ⟨hkeep.at_,hkeep.ver,Nat.le_refl _,Nat.le_add_right _ _,hm.F,hm.same,hm.sz,hm.size,hm.os,hm.tape,hm.output,fun b hb ho=>hsame b hb fun h=>ho (hownx b h),hownz,fun b m hb=>(hm.newF b m hb).imp id (fun h=>h.imp (hownx b) id)⟩
 ·refine ⟨hzN,fun j b hb=>?_,fun l m hl' hm' he=>?_,fun j b hb hbl q hf=>?_,hry.Flt⟩
  ·rcases hcase j b hb with ⟨i,b1,h3,h4,rfl⟩|⟨h3,h4⟩
   ·exact HoldsB.ren (x:=y) (y:=z) (fun _ _ h=>h) rfl (zin h3) (fun l hl'=>hfz (hch1 b1 (List.mem_of_getElem? h4) l hl')) (hry.block i b1 h4)
   ·refine HoldsB.keeps hkeep (hr.lt h4) (zout h3).2.1 (fun hbl=>hsame _ (Own.lt hr ⟨j,⟨b,h4,hbl⟩,rfl⟩) fun ho=>?_) (hr.block j b h4)
    obtain ⟨o,hos,hol,e2⟩:=hown0 _ ho
    exact h3 ((hmem j).2 (.inl (hr.inj o j hol ⟨b,h4,hbl⟩ e2 ▸ hos)))
  ·rcases hLive l hl' with ⟨i,h3,h4,e1⟩|⟨h3,h4,e1⟩<;>rcases hLive m hm' with ⟨i2,h5,h6,e2⟩|⟨h5,h6,e2⟩
   ·rw [e1,e2] at he
    have:=hry.inj i i2 h4 h6 he
    subst this
    rw [h3] at h5
    cases h5
    rfl
   ·rw [e1,e2] at he
    exact absurd he (hapart h5 h6 h4)
   ·rw [e1,e2] at he
    exact absurd he.symm (hapart h3 h4 h6)
   ·rw [e1,e2] at he
    exact hr.inj l m h4 h6 he
  ·rcases hcase j b hb with ⟨i,b1,h3,h4,rfl⟩|⟨h3,h4⟩
   ·rw [ren_live] at hbl
    rw [ren_room]
    rw [(zin h3).1] at hf ⊢
    exact hry.notF i b1 h4 hbl q hf
   ·rw [(zout h3).1] at hf ⊢
    rcases hm.newF _ _ hf with h5|h5|h5
    ·exact hr.notF j b h4 hbl q h5
    ·obtain ⟨o,hos,hol,e2⟩:=hown0 _ h5
     exact absurd ((hmem j).2 (.inl (hr.inj o j hol ⟨b,h4,hbl⟩ e2 ▸ hos))) h3
    ·have hlt : (x.at_ j).1 < x.w.heap.size:=Own.lt hr ⟨j,⟨b,h4,hbl⟩,rfl⟩
     exact absurd hlt (Nat.not_lt.2 h5)
 ·rw [hb']
  exact R.ren (x:=y) (y:=z) (fun _ _ h=>h) rfl r0 v (fun l hl'=>hfz (hcr l hl')) hv
theorem EvCall.hide {P : Program} {T : TT} {G : Nat→Option (List AV)} {f : FuncId} {args : List AV} {k0 : AV→AH→Prop} (ha : lows 0 args=true) (h : EvCall P T G f args [] k0) (hr0 : ∀ r H',k0 r H'→r.low 0=true) (H : AH) {k : AV→AH→Prop} (hk : ∀ r H',k0 r H'→k r H) : EvCall P T G f args H k:=by
 have h' : EvCall P T G f args [] (fun r H'=>H'=[]∧r.low 0=true∧k r H):=h.vs fun r H1 h1=>⟨r,[],by
  have:=VS.drop (n:=0) (fr:=[r]) (H:=[]) (G:=H1) (Nat.le_refl _) (fun b hb=>by simp at hb) (by simp [lows,hr0 r H1 h1])
  simpa using this,rfl,hr0 r H1 h1,hk r H1 h1⟩
 refine EvCall.frame [] (args0:=args) (h0:=[]) (by simp) (rens_low ha _) trivial (fun l hl=>by rw [lows_refs _ ha] at hl; simp at hl) (fun b hb=>by simp at hb) h' (fun r h1 ⟨e,h2,_⟩=>?_) (fun r h1 ⟨e,h2,h3⟩=>?_)
 ·subst e
  exact ⟨Nat.le_refl _,fun l hl=>by rw [low_refs_aux r h2] at hl; simp at hl,fun b hb=>by simp at hb⟩
 ·subst e
  rw [ren_low h2]
  have : whole H [] []=H:=by simp [whole,putBack,posOf]
  rw [this]
  exact h3
end Go.Abs
namespace Go.Abs
mutual
def AV.same : AV→AV→Bool
 | .bool a,.bool b=>a==b
 | .int k a,.int j b=>k==j&&a==b
 | .str a,.str b=>a==b
 | .nilptr,.nilptr=>true
 | .ptr l o,.ptr m p=>l==m&&o==p
 | .lptr a o,.lptr b p=>o==p&&sames a b
 | .lit n e a l,.lit m f b k=>n==m&&e==f&&l==k&&sames a b
 | .ref e y l o n s,.ref f z m p k t=>e==f&&y==z&&l==m&&o==p&&n==k&&s==t
 | .fn f a b,.fn g c d=>f==g&&sames a c&&sames b d
 | .nilfn,.nilfn=>true
 | .map l,.map m=>l==m
 | .nilmap,.nilmap=>true
 | .iface t a,.iface u b=>t==u&&a.same b
 | .nilif,.nilif=>true
 | .agg a,.agg b=>sames a b
 | .tup a,.tup b=>sames a b
 | _,_=>false
def sames : List AV→List AV→Bool
 | [],[]=>true
 | a::as,b::bs=>a.same b&&sames as bs
 | _,_=>false
end
mutual
theorem same_eq : ∀ {a b : AV},a.same b=true→a=b:=by
 intro a b h
 cases a<;>cases b<;>simp only [AV.same,Bool.and_eq_true,beq_iff_eq] at h<;>first
  | (cases h; done)
  | rfl
  | (subst h; rfl)
  | (rw [h])
  | (obtain ⟨rfl,rfl⟩:=h; rfl)
  | (obtain ⟨rfl,h⟩:=h; rw [sames_eq h]; done)
  | (obtain ⟨rfl,h⟩:=h; rw [same_eq h]; done)
  | (obtain ⟨⟨⟨rfl,rfl⟩,rfl⟩,h⟩:=h; rw [sames_eq h]; done)
  | (obtain ⟨⟨⟨⟨⟨rfl,rfl⟩,rfl⟩,rfl⟩,rfl⟩,rfl⟩:=h; rfl)
  | (obtain ⟨⟨rfl,h1⟩,h2⟩:=h; rw [sames_eq h1,sames_eq h2]; done)
  | (rw [sames_eq h]; done)
theorem sames_eq : ∀ {a b : List AV},sames a b=true→a=b:=by
 intro a b h
 cases a<;>cases b<;>simp only [sames,Bool.and_eq_true] at h<;>first
  | rfl
  | (cases h; done)
  | (rw [same_eq h.1,sames_eq h.2])
end
abbrev RCall:=FuncId→List AV→AH→Option (AV×AH)
def blockSame : AB→AB→Bool
 | .cells a,.cells b=>sames a b
 | .map a s c,.map b t d=>sames (a.map (·.1)) (b.map (·.1))&&sames (a.map (·.2)) (b.map (·.2))&&s==t&&c==d
 | .iter a s t c,.iter b u v d=>a==b&&s==u&&t==v&&c==d
 | .dead,.dead=>true
 | _,_=>false
def heapSame : AH→AH→Bool
 | [],[]=>true
 | a::as,b::bs=>blockSame a b&&heapSame as bs
 | _,_=>false
theorem pairs_eq {α β : Type} : ∀ {a b : List (α×β)},a.map (·.1)=b.map (·.1)→a.map (·.2)=b.map (·.2)→a=b
 | [],[],_,_=>rfl
 | [],_::_,h,_=>by simp at h
 | _::_,[],h,_=>by simp at h
 | a::as,b::bs,h1,h2=>by
   simp only [List.map_cons,List.cons.injEq] at h1 h2
   rw [pairs_eq h1.2 h2.2,Prod.ext h1.1 h2.1]
theorem blockSame_eq {a b : AB} (h : blockSame a b=true) : a=b:=by
 cases a<;>cases b<;>simp only [blockSame,Bool.and_eq_true,beq_iff_eq] at h<;>first
  | (cases h; done)
  | rfl
  | (rw [sames_eq h]; done)
  | (obtain ⟨⟨⟨h1,h2⟩,rfl⟩,rfl⟩:=h; rw [pairs_eq (sames_eq h1) (sames_eq h2)])
  | (obtain ⟨⟨⟨rfl,rfl⟩,rfl⟩,rfl⟩:=h; rfl)
theorem heapSame_eq : ∀ {a b : AH},heapSame a b=true→a=b
 | [],[],_=>rfl
 | [],_::_,h=>by simp [heapSame] at h
 | _::_,[],h=>by simp [heapSame] at h
 | a::as,b::bs,h=>by
   simp only [heapSame,Bool.and_eq_true] at h
   rw [blockSame_eq h.1,heapSame_eq h.2]
section
variable (T : TT) (G : Nat→Option (List AV)) (C : RCall)
abbrev Plan:=List Nat×List Nat×List Nat×(Nat×Nat)×PT
def steady (A : Array Oper) (len : Nat) : List Oper→Bool
 | []=>true
 | o::rest=>(match o.dst with
   | none=>false
   | some d=>Nat.ble (d+1) len&&!((o.looksAt A).contains d)&&rest.all fun o'=>match o'.dst with
     | some d'=>!(Nat.beq d' d)&&!((o.looksAt A).contains d')
     | none=>true)&&steady A len rest
end
def codeOk (T : TT) (tbl : Nat→Option Plan) : Code→Bool
 | .region id ops true=>match tbl id with
   | some (p0,f1,f2,cp,rows)=>treeOk T cp.1 cp.2 ops.toList p0 f1 f2 rows
   | none=>true
 | .seq a b=>codeOk T tbl a&&codeOk T tbl b
 | .cond _ a b=>codeOk T tbl a&&codeOk T tbl b
 | .block _ c|.loop c|.scope c=>codeOk T tbl c
 | _=>true
section
variable {P : Program} {T : TT} {G : Nat→Option (List AV)} {C : RCall}
theorem pure_builtin {H H' : AH} {b : Builtin} {args : Array Operand} {ts : Array TypeId} {as : List AV} {v : AV} (hp : pureOp T (.call { callee:=.builtin b,args:=args,argTypes:=ts })=true) (h : abuiltin T H b ts as=some (v,H')) : H'=H:=by
 unfold abuiltin at h
 cases b<;>first|(simp [pureOp] at hp; done)|skip
 all_goals
  generalize ts.toList=l at h
  rcases l with _|⟨t,_|⟨u,l⟩⟩<;>rcases as with _|⟨x,_|⟨y,_|⟨z,as⟩⟩⟩<;>simp only [] at h<;>first
   | (cases h; done)
   | (cases x<;>first|(cases h; done)|(cases y<;>first|(cases h; done)|skip); done)
   | (cases x<;>cases y<;>simp only [] at h<;>first|(cases h; done)|(split at h<;>first|(cases h; rfl)|(cases h; done)))
   | skip
  all_goals repeat' split at h
  all_goals first
   | (cases h; done)
   | (cases h; rfl)
   | (simp only [Option.map_eq_some_iff,Prod.mk.injEq] at h; obtain ⟨_,_,_,rfl⟩:=h; rfl)
theorem pure_heap {fr : List AV} {H H' : AH} {op : Op} {v : AV} (hp : pureOp T op=true) (h : aop T G fr H op=some (v,H')) : H'=H:=by
 unfold aop at h
 split at h<;>first
  | (simp only [Option.map_eq_some_iff,Prod.mk.injEq] at h; obtain ⟨_,_,_,rfl⟩:=h; rfl)
  | (simp [pureOp] at hp; done)
  | (cases h; done)
  | skip
 case h_13 =>
  simp only [Option.bind_eq_some_iff] at h
  obtain ⟨x,_,h⟩:=h
  simp only [pureOp] at hp
  unfold aconvert at h
  split at h
  ·split at h
   ·cases h; rfl
   ·cases h; rfl
   ·rename_i hd _
    rw [hd] at hp
    cases hp
   ·split at h
    ·split at h
     ·simp only [Option.map_eq_some_iff,Prod.mk.injEq] at h
      obtain ⟨_,_,_,rfl⟩:=h
      rfl
     ·cases h
    ·cases h
   ·cases h
  ·cases h
 case h_28 b args ts =>
  simp only [Option.bind_eq_some_iff] at h
  obtain ⟨as,_,h⟩:=h
  exact pure_builtin hp h
 all_goals repeat' split at h
 all_goals first
  | (cases h; done)
  | (cases h; rfl)
  | (simp only [Option.map_eq_some_iff,Prod.mk.injEq] at h; obtain ⟨_,_,_,rfl⟩:=h; rfl)
theorem pick_pure {ops : List Oper} {q : Nat→Oper→Bool} (hq : ∀ i o,q i o=true→pureOp T o.op=true) : ∀ o∈pickOps ops (idxs q ops),pureOp T o.op=true:=by
 intro o ho
 rw [← someOps_idx] at ho
 obtain ⟨i,_,h⟩:=mem_someOps.1 ho
 exact hq i o h
theorem looks_tmp {A : Array Oper} {o : Oper} {t : Tmp} (h : Operand.tmp t∈o.op.operands) : t∈o.looksAt A:=List.mem_append_left _ (List.mem_filterMap.2 ⟨.tmp t,by simpa using h,rfl⟩)
theorem wanted_congr {A : Array Oper} {o : Oper} {fr fr' : List AV} (h : ∀ k∈o.looksAt A,fr[k]?=fr'[k]?) : Region.wanted o (ayielded A fr)=Region.wanted o (ayielded A fr'):=by
 unfold Region.wanted
 cases hg : o.guard with
 | none=>rfl
 | some jw =>
   obtain ⟨j,w⟩:=jw
   have : ayielded A fr j=ayielded A fr' j:=by
    unfold ayielded
    cases ht : (A[j]?).bind (·.dst) with
    | none=>rfl
    | some t =>
      have:=h t (List.mem_append_right _ (by rw [hg]; simp only []; rw [ht]; simp))
      simp only [Option.bind_some,this]
   simp only [this]
theorem mem_pick {ops : List Oper} {o : Oper} : ∀ {l : List Nat},o∈pickOps ops l↔∃ i∈l,ops[i]?=some o
 | []=>by simp [pickOps]
 | i::l=>by
   unfold pickOps
   cases h : ops[i]? with
   | none=>simp only []; rw [mem_pick]; constructor
           ·rintro ⟨j,hj,h'⟩; exact ⟨j,by simp [hj],h'⟩
           ·rintro ⟨j,hj,h'⟩
            rcases List.mem_cons.1 hj with rfl|hj
            ·rw [h] at h'; cases h'
            ·exact ⟨j,hj,h'⟩
   | some a=>simp only [List.mem_cons]; rw [mem_pick]; constructor
             ·rintro (rfl|⟨j,hj,h'⟩)
              ·exact ⟨i,.inl rfl,h⟩
              ·exact ⟨j,.inr hj,h'⟩
             ·rintro ⟨j,rfl|hj,h'⟩
              ·rw [h] at h'; cases h'; exact .inl rfl
              ·exact .inr ⟨j,hj,h'⟩
def TabOk (P : Program) (T : TT) (fns : FuncId→Option (Func×(Nat→Option Plan))) : Prop :=
 ∀ f fn tbl,fns f=some (fn,tbl)→P.funcs[f]?=some fn∧(fn.name == "runtime.NumGoroutine")=false∧∀ c,fn.body=some c→codeOk T tbl c=true
end
def answers (r : Option (AV×AH)) (b : Bool) : Bool:=match r with
 | some (.bool c,_)=>c==b
 | _=>false
def bodyOk (T : TT) (tbl : Nat→Option Plan) (fn : Func) : Bool:=match fn.body with
 | some c=>codeOk T tbl c
 | none=>true
def fnOk (T : TT) (tbl : Nat→Option Plan) (fn : Func) : Bool:=!(fn.name == "runtime.NumGoroutine")&&bodyOk T tbl fn
end Go.Abs
namespace Go.Abs
end Go.Abs
