/- Digests and tags: what the program does, by plain numbers, so that the kernel can run them. -/
import Derived.Test.YtnoongjjjpljjaaGreatDoorDecT
namespace Go.Proofs.YtnoongjjjpljjaaGreatDoor
open Go.Abs
theorem add1 {x : Int} (h0 : 0≤x) (h1 : x < 4611686018427387904) : iAdd .i64 x 1=x+1:=by
 simp [iAdd,IntKind.wrap,IntKind.bits,IntKind.signed]; omega
theorem inc {i n : Nat} (h : i < n) (hn : n < 4611686018427387904) : iAdd .i64 (i : Int) 1=(i : Int)+1:=add1 (by omega) (by omega)
theorem addw {x y : Int} (h0 : -4611686018427387904≤x+y) (h1 : x+y < 4611686018427387904) : iAdd .i64 x y=x+y:=by
 simp [iAdd,IntKind.wrap,IntKind.bits,IntKind.signed]; omega
theorem subw {x y : Int} (h0 : -4611686018427387904≤x - y) (h1 : x - y < 4611686018427387904) : iSub .i64 x y=x - y:=by
 simp [iSub,IntKind.wrap,IntKind.bits,IntKind.signed]; omega
theorem mulw {x y : Int} (h0 : -4611686018427387904≤x * y) (h1 : x * y < 4611686018427387904) : iMul .i64 x y=x * y:=by
 simp [iMul,IntKind.wrap,IntKind.bits,IntKind.signed]; omega
theorem ltB (x y : Int) : iLt x y=decide (x < y):=by unfold iLt; rw [Bool.eq_iff_iff]; simp [ile_eq]
theorem gtB (x y : Int) : iGt x y=decide (y < x):=by unfold iGt; rw [Bool.eq_iff_iff]; simp [ile_eq]
theorem geB (x y : Int) : iGe x y=decide (y≤x):=by unfold iGe; exact ile_eq y x
theorem idx_in {α : Type} {l : List α} {i : Nat} (h : i < l.length) : idxL l (i : Int)=some l[i]:=by simp [idxL,h]
theorem idxN_in {n i : Nat} (h : i < n) : idxN n (i : Int)=some i:=by
 unfold idxN
 rw [if_pos ⟨by omega,by omega⟩,Int.toNat_natCast]
theorem idxR_in {α : Type} {n i : Nat} {l : List α} (h : i < n) (hl : i < l.length) : idxR 0 n l (i : Int)=some l[i]:=by
 unfold idxR
 rw [if_pos ⟨by omega,by omega⟩,Int.toNat_natCast,Nat.zero_add,List.getElem?_eq_getElem hl]
def iter {α : Type} (f : Nat→α→α) (lo : Nat) : Nat→α→α
 | 0,a=>a
 | n+1,a=>f (lo+n) (iter f lo n a)
theorem loop_cnt {σ ρ : Type} {B : (σ→Option ρ)→σ→Option ρ} (st : Nat→σ) (lo hi : Nat) (hle : lo≤hi) (hh : hi < 18446744073709551615) (fin : Option ρ) (h : ∀ k i,lo≤i→i < hi→B k (st i)=k (st (i+1))) (he : ∀ k,B k (st hi)=fin) : loopN B FUEL (st lo)=fin:=by
 have key : ∀ n d i,hi - i=n→lo≤i→i≤hi→n < d→loopN B d (st i)=fin:=by
  intro n
  induction n with
  | zero =>
    intro d i h1 h2 h3 h4
    obtain ⟨e,rfl⟩ : ∃ e,d=e+1:=⟨d - 1,by omega⟩
    have : i=hi:=by omega
    subst this
    exact he _
  | succ n ih =>
    intro d i h1 h2 h3 h4
    obtain ⟨e,rfl⟩ : ∃ e,d=e+1:=⟨d - 1,by omega⟩
    show B (loopN B e) (st i)=fin
    rw [h _ i h2 (by omega)]
    exact ih e (i+1) (by omega) (by omega) (by omega) (by omega)
 exact key (hi - lo) FUEL lo rfl (Nat.le_refl _) hle (by unfold FUEL; omega)
theorem loop_it {α ρ : Type} {B : (Int×α→Option ρ)→Int×α→Option ρ} (f : Nat→α→α) (lo n : Nat) (hh : lo+n < 18446744073709551615) (a : α) (fin : Option ρ) (h : ∀ k i a,lo≤i→i < lo+n→B k ((i : Int),a)=k (((i+1 : Nat) : Int),f i a)) (he : ∀ k a,B k (((lo+n : Nat) : Int),a)=B (fun _=>none) (((lo+n : Nat) : Int),a)) (hf : B (fun _=>none) (((lo+n : Nat) : Int),iter f lo n a)=fin) : loopN B FUEL ((lo : Int),a)=fin:=by
 have:=loop_cnt (B:=B) (fun i=>((i : Int),iter f lo (i - lo) a)) lo (lo+n) (by omega) hh fin (fun k i h1 h2=>by
  rw [h k i _ h1 h2]
  have e : i+1 - lo=(i - lo)+1:=by omega
  rw [e]
  show k (_,f i _)=k (_,f (lo+(i - lo)) _)
  rw [show lo+(i - lo)=i by omega]) (fun k=>by
  rw [he,show lo+n - lo=n by omega]
  exact hf)
 rw [Nat.sub_self] at this
 exact this
theorem iOr_comm (k : IntKind) (a b : Int) : iOr k a b=iOr k b a:=by unfold iOr; rw [BitVec.or_comm]
def rr (x : Int) (n : Nat) : Int:=iOr .u32 (iShl .u32 x ((32 - n : Nat) : Int)) (iShr .u32 x (n : Int))
theorem rot_eq {n : Nat} (h : n=2∨n=6∨n=7∨n=11∨n=13∨n=17∨n=18∨n=19∨n=22∨n=25) (x : Int) : sum_rot x (n : Int)=some (rr x n):=by
 rcases h with rfl|rfl|rfl|rfl|rfl|rfl|rfl|rfl|rfl|rfl<;>rfl
theorem turn_eq {n : Nat} (h : n=2∨n=6∨n=7∨n=11∨n=13∨n=17∨n=18∨n=19∨n=22∨n=25) (x : Int) : r02_turn x (n : Int)=some (rr x n):=by
 unfold rr
 rw [iOr_comm]
 rcases h with rfl|rfl|rfl|rfl|rfl|rfl|rfl|rfl|rfl|rfl<;>rfl
def U32 (x : Int) : Prop:=0≤x∧x < 4294967296
theorem u32_wrap (x : Int) : U32 (IntKind.wrap .u32 x):=by
 constructor<;>simp [IntKind.wrap,IntKind.bits,IntKind.signed]<;>omega
theorem u32_add (x y : Int) : U32 (iAdd .u32 x y):=u32_wrap _
theorem quo_shr {x : Int} (h : U32 x) (n : Nat) (hn : n < 32) : iQuo .u32 x (2 ^ n : Nat)=iShr .u32 x (n : Int):=by
 obtain ⟨m,rfl⟩ : ∃ m : Nat,x=m:=⟨x.toNat,by have:=h.1; omega⟩
 have hm : m < 4294967296:=by have:=h.2; omega
 unfold iQuo iShr
 have e1 : ((m : Int).tdiv ((2 ^ n : Nat) : Int))=((m / 2 ^ n : Nat) : Int):=(Int.ofNat_tdiv m (2 ^ n)).symm
 rw [e1]
 have e2 : min (n : Int).toNat (IntKind.u32.bits)=n:=by simp [IntKind.bits]; omega
 rw [e2]
 have e3 : (m : Int).fdiv (2 ^ n)=((m / 2 ^ n : Nat) : Int):=by
  rw [Int.fdiv_eq_ediv_of_nonneg _ (by exact_mod_cast Nat.zero_le _)]
  norm_cast
 rw [e3]
 have : m / 2 ^ n < 4294967296:=Nat.lt_of_le_of_lt (Nat.div_le_self _ _) hm
 generalize m / 2 ^ n=q at *
 simp [IntKind.wrap,IntKind.bits,IntKind.signed]
 omega
def sig0 (x : Int) : Int:=iXor .u32 (iXor .u32 (rr x 7) (rr x 18)) (iShr .u32 x 3)
def sig1 (x : Int) : Int:=iXor .u32 (iXor .u32 (rr x 17) (rr x 19)) (iShr .u32 x 10)
def stepW (t : Nat) (w : Arr 64) : Arr 64:=w.set t (iAdd .u32 (iAdd .u32 (iAdd .u32 (sig1 (w.at (t - 2))) (w.at (t - 7))) (sig0 (w.at (t - 15)))) (w.at (t - 16)))
def byteW (a : Arr 64) (t i : Nat) (w : Arr 64) : Arr 64:=w.set t (iOr .u32 (iShl .u32 (w.at t) 8) (IntKind.wrap .u32 (a.at (4 * t+i))))
def firstW (a : Arr 64) (t : Nat) (w : Arr 64) : Arr 64:=iter (byteW a t) 0 4 w
def wordsA (a : Arr 64) : Arr 64:=iter stepW 16 48 (iter (firstW a) 0 16 (Arr.zero 64))
theorem words_eq (a : Arr 64) : sum_words a=some (wordsA a):=by
 unfold sum_words
 have e0 : ((0 : Int),Arr.zero 64)=(((0 : Nat) : Int),Arr.zero 64):=rfl
 rw [e0]
 refine loop_it (firstW a) 0 16 (by omega) _ _ (fun k i w _ hi=>?_) (fun k w=>?_) ?_
 ·unfold sum_words_B858
  rw [if_pos (by rw [ltB]; simp; omega)]
  have e1 : ((0 : Int),w)=(((0 : Nat) : Int),w):=rfl
  show loopN (sum_words_B963 a k ((i : Int),w)) FUEL ((0 : Int),w)=_
  rw [e1]
  refine loop_it (byteW a i) 0 4 (by omega) w _ (fun k2 j w2 _ hj=>?_) (fun k2 w2=>?_) ?_
  ·unfold sum_words_B963
   rw [if_pos (by rw [ltB]; simp; omega)]
   simp only
   rw [idxN_in (show i < 64 by omega),Option.bind_some,mulw (by omega) (by omega),addw (by omega) (by omega)]
   have e2 : 4 * (i : Int)+(j : Int)=((4 * i+j : Nat) : Int):=by omega
   rw [e2,idxN_in (show 4 * i+j < 64 by omega),Option.bind_some,Option.bind_some,inc hj (by omega)]
   rfl
  ·unfold sum_words_B963
   rw [if_neg (by rw [ltB]; simp),if_neg (by rw [ltB]; simp)]
  ·unfold sum_words_B963
   rw [if_neg (by rw [ltB]; simp)]
   unfold sum_words_J8
   simp only
   rw [inc hi (by omega)]
   rfl
 ·unfold sum_words_B858
  rw [if_neg (by rw [ltB]; simp),if_neg (by rw [ltB]; simp)]
 ·unfold sum_words_B858
  rw [if_neg (by rw [ltB]; simp)]
  unfold sum_words_J4
  simp only
  have e1 : ∀ p : Arr 64,((16 : Int),p)=(((16 : Nat) : Int),p):=fun _=>rfl
  rw [e1]
  refine loop_it stepW 16 48 (by omega) _ _ (fun k i w h1 hi=>?_) (fun k w=>?_) ?_
  ·unfold sum_words_B569
   rw [if_pos (by rw [ltB]; simp; omega)]
   simp only
   have f : ∀ c : Nat,c≤16→iSub .i64 (i : Int) (c : Int)=((i - c : Nat) : Int):=fun c hc=>by rw [subw (by omega) (by omega)]; omega
   have f15 : iSub .i64 (i : Int) 15=((i - 15 : Nat) : Int):=f 15 (by omega)
   have f2 : iSub .i64 (i : Int) 2=((i - 2 : Nat) : Int):=f 2 (by omega)
   have f7 : iSub .i64 (i : Int) 7=((i - 7 : Nat) : Int):=f 7 (by omega)
   have f16 : iSub .i64 (i : Int) 16=((i - 16 : Nat) : Int):=f 16 (by omega)
   have r7 : ∀ x,sum_rot x 7=some (rr x 7):=fun x=>rot_eq (n:=7) (by simp) x
   have r18 : ∀ x,sum_rot x 18=some (rr x 18):=fun x=>rot_eq (n:=18) (by simp) x
   have r17 : ∀ x,sum_rot x 17=some (rr x 17):=fun x=>rot_eq (n:=17) (by simp) x
   have r19 : ∀ x,sum_rot x 19=some (rr x 19):=fun x=>rot_eq (n:=19) (by simp) x
   rw [f15,f2,f7,f16,idxN_in (show i - 15 < 64 by omega),Option.bind_some,idxN_in (show i - 2 < 64 by omega),Option.bind_some,r7,Option.bind_some,r18,Option.bind_some,r17,Option.bind_some,r19,Option.bind_some,idxN_in (show i - 7 < 64 by omega),Option.bind_some,idxN_in (show i - 16 < 64 by omega),Option.bind_some,idxN_in (show i < 64 by omega),Option.bind_some,inc hi (by omega)]
   rfl
  ·unfold sum_words_B569
   rw [if_neg (by rw [ltB]; simp),if_neg (by rw [ltB]; simp)]
  ·unfold sum_words_B569
   rw [if_neg (by rw [ltB]; simp)]
   rfl
def S1 (x : Int) : Int:=iXor .u32 (iXor .u32 (rr x 6) (rr x 11)) (rr x 25)
def S0 (x : Int) : Int:=iXor .u32 (iXor .u32 (rr x 2) (rr x 13)) (rr x 22)
def chF (e f g : Int) : Int:=iXor .u32 (iAnd .u32 e f) (iAnd .u32 (iNot .u32 e) g)
def majF (a b c : Int) : Int:=iXor .u32 (iXor .u32 (iAnd .u32 a b) (iAnd .u32 a c)) (iAnd .u32 b c)
def T1 (v : Arr 8) (k w : Int) : Int:=iAdd .u32 (iAdd .u32 (iAdd .u32 (iAdd .u32 (v.at 7) (S1 (v.at 4))) (chF (v.at 4) (v.at 5) (v.at 6))) k) w
def stepV (w : Arr 64) (t : Nat) (v : Arr 8) : Arr 8:=⟨[iAdd .u32 (T1 v (gv0.at t) (w.at t)) (iAdd .u32 (S0 (v.at 0)) (majF (v.at 0) (v.at 1) (v.at 2))),v.at 0,v.at 1,v.at 2,iAdd .u32 (v.at 3) (T1 v (gv0.at t) (w.at t)),v.at 4,v.at 5,v.at 6],rfl⟩
def addV (s : Arr 8) (i : Nat) (v : Arr 8) : Arr 8:=v.set i (iAdd .u32 (v.at i) (s.at i))
def takeA (s : Arr 8) (b : Arr 64) : Arr 8:=iter (addV s) 0 8 (iter (stepV (wordsA b)) 0 64 s)
theorem take_eq (s : Arr 8) (b : Arr 64) : sum_take s b=some (takeA s b):=by
 unfold sum_take
 rw [words_eq,Option.bind_some]
 have e0 : ((0 : Int),s)=(((0 : Nat) : Int),s):=rfl
 rw [e0]
 have r:=fun (n : Nat) h x=>rot_eq (n:=n) h x
 have r6 : ∀ x,sum_rot x 6=some (rr x 6):=fun x=>rot_eq (n:=6) (by simp) x
 have r11 : ∀ x,sum_rot x 11=some (rr x 11):=fun x=>rot_eq (n:=11) (by simp) x
 have r25 : ∀ x,sum_rot x 25=some (rr x 25):=fun x=>rot_eq (n:=25) (by simp) x
 have r2 : ∀ x,sum_rot x 2=some (rr x 2):=fun x=>rot_eq (n:=2) (by simp) x
 have r13 : ∀ x,sum_rot x 13=some (rr x 13):=fun x=>rot_eq (n:=13) (by simp) x
 have r22 : ∀ x,sum_rot x 22=some (rr x 22):=fun x=>rot_eq (n:=22) (by simp) x
 have i0 : idxN 8 0=some 0:=rfl
 have i1 : idxN 8 1=some 1:=rfl
 have i2 : idxN 8 2=some 2:=rfl
 have i3 : idxN 8 3=some 3:=rfl
 have i4 : idxN 8 4=some 4:=rfl
 have i5 : idxN 8 5=some 5:=rfl
 have i6 : idxN 8 6=some 6:=rfl
 have i7 : idxN 8 7=some 7:=rfl
 refine loop_it (stepV (wordsA b)) 0 64 (by omega) _ _ (fun k i v _ hi=>?_) (fun k v=>?_) ?_
 ·unfold sum_take_B524
  rw [if_pos (by rw [ltB]; simp; omega)]
  simp only [idxN_in (show i < 64 by omega),i0,i1,i2,i3,i4,i5,i6,i7,r6,r11,r25,r2,r13,r22,Option.bind_some]
  rw [inc hi (by omega)]
  rfl
 ·unfold sum_take_B524
  rw [if_neg (by rw [ltB]; simp),if_neg (by rw [ltB]; simp)]
 ·unfold sum_take_B524
  rw [if_neg (by rw [ltB]; simp)]
  unfold sum_take_J1
  simp only
  have e1 : ∀ p : Arr 8,((0 : Int),p)=(((0 : Nat) : Int),p):=fun _=>rfl
  rw [e1]
  refine loop_it (addV s) 0 8 (by omega) _ _ (fun k i v _ hi=>?_) (fun k v=>?_) ?_
  ·unfold sum_take_B346
   rw [if_pos (by rw [ltB]; simp; omega)]
   simp only [idxN_in (show i < 8 by omega),Option.bind_some]
   rw [inc hi (by omega)]
   rfl
  ·unfold sum_take_B346
   rw [if_neg (by rw [ltB]; simp),if_neg (by rw [ltB]; simp)]
  ·unfold sum_take_B346
   rw [if_neg (by rw [ltB]; simp)]
   rfl
theorem loop_ti {α ρ : Type} {B : (α×Int→Option ρ)→α×Int→Option ρ} (P : α→Prop) (f : Nat→α→α) (lo n : Nat) (hh : lo+n < 18446744073709551615) (a : α) (fin : Option ρ) (hP : ∀ i a,P a→P (f i a)) (ha : P a) (h : ∀ k i a,P a→lo≤i→i < lo+n→B k (a,(i : Int))=k (f i a,((i+1 : Nat) : Int))) (he : ∀ k a,B k (a,((lo+n : Nat) : Int))=B (fun _=>none) (a,((lo+n : Nat) : Int))) (hf : B (fun _=>none) (iter f lo n a,((lo+n : Nat) : Int))=fin) : loopN B FUEL (a,(lo : Int))=fin:=by
 have hPi : ∀ m,P (iter f lo m a):=by
  intro m
  induction m with
  | zero=>exact ha
  | succ m ih=>exact hP _ _ ih
 have:=loop_cnt (B:=B) (fun i=>(iter f lo (i - lo) a,(i : Int))) lo (lo+n) (by omega) hh fin (fun k i h1 h2=>by
  rw [h k i _ (hPi _) h1 h2]
  have e : i+1 - lo=(i - lo)+1:=by omega
  rw [e]
  show k (f i _,_)=k (f (lo+(i - lo)) _,_)
  rw [show lo+(i - lo)=i by omega]) (fun k=>by
  rw [he,show lo+n - lo=n by omega]
  exact hf)
 rw [Nat.sub_self] at this
 exact this
theorem idxR_get {l : List Int} (hl : l.length=64) {i : Nat} (h : i < 64) : idxR 0 ((64 : Int).toNat) l (i : Int)=some (l.getD i 0):=by
 have:=idxR_in (n:=64) (l:=l) h (by omega)
 rw [List.getD_eq_getElem?_getD,List.getElem?_eq_getElem (by omega)]
 exact this
theorem idxL_get {l : List Int} {i : Nat} (h : i < l.length) : idxL l (i : Int)=some (l.getD i 0):=by
 rw [idx_in h,List.getD_eq_getElem?_getD,List.getElem?_eq_getElem h]
 rfl
def wordR (b : List Int) (t : Nat) : Int:=iAdd .u32 (iAdd .u32 (iAdd .u32 (iMul .u32 (IntKind.wrap .u32 (b.getD (4 * t) 0)) 16777216) (iMul .u32 (IntKind.wrap .u32 (b.getD (4 * t+1) 0)) 65536)) (iMul .u32 (IntKind.wrap .u32 (b.getD (4 * t+2) 0)) 256)) (IntKind.wrap .u32 (b.getD (4 * t+3) 0))
theorem word_ref (b : Sl Int) (hb : b.l.length=64) {t : Nat} (ht : t < 16) : r02_word b ((4 * t : Nat) : Int)=some (wordR b.l t):=by
 unfold r02_word
 have f : ∀ c : Nat,c≤3→iAdd .i64 ((4 * t : Nat) : Int) (c : Int)=((4 * t+c : Nat) : Int):=fun c hc=>by rw [addw (by omega) (by omega)]; omega
 have f1 : iAdd .i64 ((4 * t : Nat) : Int) 1=((4 * t+1 : Nat) : Int):=f 1 (by omega)
 have f2 : iAdd .i64 ((4 * t : Nat) : Int) 2=((4 * t+2 : Nat) : Int):=f 2 (by omega)
 have f3 : iAdd .i64 ((4 * t : Nat) : Int) 3=((4 * t+3 : Nat) : Int):=f 3 (by omega)
 rw [f1,f2,f3,idxL_get (by omega),Option.bind_some,idxL_get (by omega),Option.bind_some,idxL_get (by omega),Option.bind_some,idxL_get (by omega),Option.bind_some]
 rfl
theorem orb {x b : Nat} (hx : x < 16777216) (hb : b < 256) : iOr .u32 (iShl .u32 (x : Int) 8) (IntKind.wrap .u32 (b : Int))=((x * 256+b : Nat) : Int):=by
 have e1 : iShl .u32 (x : Int) 8=((x * 256 : Nat) : Int):=by
  unfold iShl
  have : min (8 : Int).toNat IntKind.u32.bits=8:=rfl
  rw [this]
  simp [IntKind.wrap,IntKind.bits,IntKind.signed]
  omega
 have e2 : IntKind.wrap .u32 (b : Int)=(b : Int):=by
  simp [IntKind.wrap,IntKind.bits,IntKind.signed]
  omega
 rw [e1,e2]
 unfold iOr
 have e3 : (BitVec.ofInt IntKind.u32.bits ((x * 256 : Nat) : Int) ||| BitVec.ofInt IntKind.u32.bits ((b : Nat) : Int)).toNat=x * 256+b:=by
  rw [BitVec.ofInt_natCast,BitVec.ofInt_natCast,BitVec.toNat_or,BitVec.toNat_ofNat,BitVec.toNat_ofNat]
  have h1 : x * 256 % 2 ^ IntKind.u32.bits=x * 256:=Nat.mod_eq_of_lt (by show _ < 2 ^ 32; omega)
  have h2 : b % 2 ^ IntKind.u32.bits=b:=Nat.mod_eq_of_lt (by show _ < 2 ^ 32; omega)
  rw [h1,h2]
  have:=Nat.shiftLeft_add_eq_or_of_lt (i:=8) (b:=b) (by omega) x
  rw [Nat.shiftLeft_eq] at this
  exact this.symm
 rw [e3]
 simp [IntKind.wrap,IntKind.bits,IntKind.signed]
 omega
theorem Arr.at_set {n : Nat} (w : Arr n) {t : Nat} (ht : t < n) (x : Int) : (w.set t x).at t=x:=by
 unfold Arr.at Arr.set
 rw [List.getD_eq_getElem?_getD,List.getElem?_set_self (by rw [w.h]; exact ht)]
 rfl
theorem Arr.at_set_ne {n : Nat} (w : Arr n) {t j : Nat} (h : t≠j) (x : Int) : (w.set t x).at j=w.at j:=by
 unfold Arr.at Arr.set
 rw [List.getD_eq_getElem?_getD,List.getElem?_set_ne h,List.getD_eq_getElem?_getD]
theorem Arr.set_set {n : Nat} (w : Arr n) (t : Nat) (x y : Int) : (w.set t x).set t y=w.set t y:=by
 apply Arr.ext'
 unfold Arr.set
 simp
def Bytes {n : Nat} (b : Arr n) : Prop:=∀ j,∃ m : Nat,m < 256∧b.at j=m
theorem firstW_eq (b w : Arr 64) (hb : Bytes b) {t : Nat} (ht : t < 64) (h0 : w.at t=0) : firstW b t w=w.set t (wordR b.l t):=by
 obtain ⟨b0,k0,e0⟩:=hb (4 * t)
 obtain ⟨b1,k1,e1⟩:=hb (4 * t+1)
 obtain ⟨b2,k2,e2⟩:=hb (4 * t+2)
 obtain ⟨b3,k3,e3⟩:=hb (4 * t+3)
 have s0 : byteW b t 0 w=w.set t ((b0 : Nat) : Int):=by
  unfold byteW
  rw [h0,Nat.add_zero,e0]
  have:=orb (x:=0) (b:=b0) (by omega) k0
  rw [Nat.zero_mul,Nat.zero_add] at this
  exact congrArg (w.set t) this
 have st : ∀ (i x c : Nat),x < 16777216→c < 256→b.at (4 * t+i)=c→byteW b t i (w.set t ((x : Nat) : Int))=w.set t ((x * 256+c : Nat) : Int):=fun i x c hx hc he=>by
  unfold byteW
  rw [Arr.at_set w ht,he,orb hx hc,Arr.set_set]
 have hw : wordR b.l t=((((b0 * 256+b1) * 256+b2) * 256+b3 : Nat) : Int):=by
  unfold wordR
  have f0 : b.l.getD (4 * t) 0=b0:=e0
  have f1 : b.l.getD (4 * t+1) 0=b1:=e1
  have f2 : b.l.getD (4 * t+2) 0=b2:=e2
  have f3 : b.l.getD (4 * t+3) 0=b3:=e3
  rw [f0,f1,f2,f3]
  simp [iAdd,iMul,IntKind.wrap,IntKind.bits,IntKind.signed]
  omega
 unfold firstW
 show byteW b t (0+3) (byteW b t (0+2) (byteW b t (0+1) (byteW b t (0+0) w)))=_
 simp only [Nat.zero_add]
 rw [s0,st 1 b0 b1 (by omega) k1 e1,st 2 _ b2 (by omega) k2 e2,st 3 _ b3 (by omega) k3 e3,hw]
def setL (b : List Int) (t : Nat) (l : List Int) : List Int:=l.set t (wordR b t)
theorem first_list (b : Arr 64) (hb : Bytes b) : ∀ n,n≤16→(iter (firstW b) 0 n (Arr.zero 64)).l=iter (setL b.l) 0 n (List.replicate 64 0)∧∀ j,n≤j→(iter (firstW b) 0 n (Arr.zero 64)).at j=0
 | 0,_=>⟨rfl,fun j _=>by
   show (Arr.zero 64).at j=0
   unfold Arr.at Arr.zero
   rw [List.getD_eq_getElem?_getD,List.getElem?_replicate]
   split<;>rfl⟩
 | n+1,h=>by
   obtain ⟨i1,i2⟩:=first_list b hb n (by omega)
   show (firstW b (0+n) (iter (firstW b) 0 n (Arr.zero 64))).l=setL b.l (0+n) (iter (setL b.l) 0 n (List.replicate 64 0))∧∀ j,n+1≤j→(firstW b (0+n) (iter (firstW b) 0 n (Arr.zero 64))).at j=0
   rw [Nat.zero_add,firstW_eq b _ hb (by omega) (i2 n (Nat.le_refl _))]
   refine ⟨?_,fun j hj=>?_⟩
   ·show ((iter (firstW b) 0 n (Arr.zero 64)).l.set n _)=_
    rw [i1]
    rfl
   ·rw [Arr.at_set_ne _ (by omega)]
    exact i2 j (by omega)
def U32L (l : List Int) : Prop:=∀ j,U32 (l.getD j 0)
theorem U32L.set {l : List Int} (h : U32L l) (t : Nat) {x : Int} (hx : U32 x) : U32L (l.set t x):=fun j=>by
 rw [List.getD_eq_getElem?_getD]
 by_cases e : t=j
 ·subst e
  by_cases hl : t < l.length
  ·rw [List.getElem?_set_self hl]; exact hx
  ·rw [List.getElem?_eq_none (by simp; omega)]; exact ⟨by decide,by decide⟩
 ·rw [List.getElem?_set_ne e,← List.getD_eq_getElem?_getD]
  exact h j
theorem u32_zero (n : Nat) : U32L (List.replicate n 0):=fun j=>by
 rw [List.getD_eq_getElem?_getD,List.getElem?_replicate]
 split<;>exact ⟨by decide,by decide⟩
theorem set_u32 (b : List Int) : ∀ n,U32L (iter (setL b) 0 n (List.replicate 64 0))∧(iter (setL b) 0 n (List.replicate 64 0)).length=64
 | 0=>⟨u32_zero 64,by simp [iter]⟩
 | n+1=>by
   obtain ⟨h1,h2⟩:=set_u32 b n
   exact ⟨U32L.set h1 _ (u32_add _ _),by show (List.set _ _ _).length=64; rw [List.length_set]; exact h2⟩
def nextL (l : List Int) (t : Nat) : Int:=iAdd .u32 (iAdd .u32 (iAdd .u32 (iXor .u32 (iXor .u32 (rr (l.getD (t - 2) 0) 17) (rr (l.getD (t - 2) 0) 19)) (iQuo .u32 (l.getD (t - 2) 0) 1024)) (l.getD (t - 7) 0)) (iXor .u32 (iXor .u32 (rr (l.getD (t - 15) 0) 7) (rr (l.getD (t - 15) 0) 18)) (iQuo .u32 (l.getD (t - 15) 0) 8))) (l.getD (t - 16) 0)
def stepL (t : Nat) (l : List Int) : List Int:=l.set t (nextL l t)
theorem stepW_list (w : Arr 64) (h : U32L w.l) (t : Nat) : (stepW t w).l=stepL t w.l:=by
 have q1 : iQuo .u32 (w.l.getD (t - 2) 0) 1024=iShr .u32 (w.l.getD (t - 2) 0) 10:=quo_shr (h _) 10 (by omega)
 have q2 : iQuo .u32 (w.l.getD (t - 15) 0) 8=iShr .u32 (w.l.getD (t - 15) 0) 3:=quo_shr (h _) 3 (by omega)
 unfold stepL nextL
 rw [q1,q2]
 rfl
def wordsL (b : List Int) : List Int:=iter stepL 16 48 (iter (setL b) 0 16 (List.replicate 64 0))
theorem wordsL_ok (b : List Int) : ∀ n,U32L (iter stepL 16 n (iter (setL b) 0 16 (List.replicate 64 0)))∧(iter stepL 16 n (iter (setL b) 0 16 (List.replicate 64 0))).length=64
 | 0=>set_u32 b 16
 | n+1=>by
   obtain ⟨h1,h2⟩:=wordsL_ok b n
   exact ⟨U32L.set h1 _ (u32_add _ _),by show (List.set _ _ _).length=64; rw [List.length_set]; exact h2⟩
theorem words_list (b : Arr 64) (hb : Bytes b) : (wordsA b).l=wordsL b.l:=by
 unfold wordsA wordsL
 have key : ∀ n,(iter stepW 16 n (iter (firstW b) 0 16 (Arr.zero 64))).l=iter stepL 16 n (iter (setL b.l) 0 16 (List.replicate 64 0)):=by
  intro n
  induction n with
  | zero=>exact (first_list b hb 16 (Nat.le_refl _)).1
  | succ n ih =>
    show (stepW (16+n) (iter stepW 16 n _)).l=stepL (16+n) _
    rw [stepW_list _ (by rw [ih]; exact (wordsL_ok b.l n).1),ih]
 exact key 48
theorem iter_put (g : Nat→List Int→Int) (lo : Nat) (q : Sl Int) : ∀ n,(iter (fun i (q : Sl Int)=>q.put (0+i) (g i q.l)) lo n q).l=iter (fun i l=>l.set i (g i l)) lo n q.l
 | 0=>rfl
 | n+1=>by
   show ((iter _ lo n q).l.set (0+(lo+n)) _)=(iter _ lo n q.l).set (lo+n) _
   rw [iter_put g lo q n,Nat.zero_add]
theorem iAdd_comm32 (a b : Int) : iAdd .u32 a b=iAdd .u32 b a:=by unfold iAdd; rw [Int.add_comm]
theorem iAdd_assoc32 (a b c : Int) : iAdd .u32 (iAdd .u32 a b) c=iAdd .u32 a (iAdd .u32 b c):=by
 simp [iAdd,IntKind.wrap,IntKind.bits,IntKind.signed]
 omega
theorem not_sub {x : Int} (h : U32 x) : iSub .u32 4294967295 x=iNot .u32 x:=by
 obtain ⟨m,rfl⟩ : ∃ m : Nat,x=m:=⟨x.toNat,by have:=h.1; omega⟩
 have hm : m < 4294967296:=by have:=h.2; omega
 unfold iNot iSub
 have e : (BitVec.ofInt IntKind.u32.bits (if IntKind.u32.signed=true then -1 else IntKind.u32.max) ^^^ BitVec.ofInt IntKind.u32.bits ((m : Nat) : Int)).toNat=4294967295 - m:=by
  have e2 : BitVec.ofInt IntKind.u32.bits ((m : Nat) : Int)=BitVec.ofNat 32 m:=BitVec.ofInt_natCast ..
  rw [e2]
  show (BitVec.ofInt 32 (if IntKind.u32.signed=true then -1 else IntKind.u32.max) ^^^ BitVec.ofNat 32 m).toNat=_
  have e3 : BitVec.ofInt 32 (if IntKind.u32.signed=true then -1 else IntKind.u32.max)=BitVec.allOnes 32:=by decide
  rw [e3,BitVec.xor_comm,BitVec.xor_allOnes,BitVec.toNat_not,BitVec.toNat_ofNat,Nat.mod_eq_of_lt (by omega)]
 rw [e]
 simp [IntKind.wrap,IntKind.bits,IntKind.signed]
 omega
def U32A {n : Nat} (v : Arr n) : Prop:=∀ j,U32 (v.at j)
theorem stepV_u32 (w : Arr 64) (t : Nat) (v : Arr 8) (h : U32A v) : U32A (stepV w t v):=fun j=>by
 have h0:=h 0
 have h1:=h 1
 have h2:=h 2
 have h4:=h 4
 have h5:=h 5
 have h6:=h 6
 match j with
 | 0=>exact u32_add _ _
 | 1=>exact h0
 | 2=>exact h1
 | 3=>exact h2
 | 4=>exact u32_add _ _
 | 5=>exact h4
 | 6=>exact h5
 | 7=>exact h6
 | j+8=>exact ⟨Int.le_refl 0,show (0 : Int) < 4294967296 by decide⟩
theorem addV_list (s v : Arr 8) : (iter (addV s) 0 8 v).l=[iAdd .u32 (v.at 0) (s.at 0),iAdd .u32 (v.at 1) (s.at 1),iAdd .u32 (v.at 2) (s.at 2),iAdd .u32 (v.at 3) (s.at 3),iAdd .u32 (v.at 4) (s.at 4),iAdd .u32 (v.at 5) (s.at 5),iAdd .u32 (v.at 6) (s.at 6),iAdd .u32 (v.at 7) (s.at 7)]:=by
 obtain ⟨l,hl⟩:=v
 match l,hl with
 | [a,b,c,d,e,f,g,h],_=>rfl
def vt (i : Nat) (v : Arr 8) : Int×Int×Int×Int×Int×Int×Int×Int×Int:=(v.at 0,v.at 1,v.at 2,v.at 3,v.at 4,v.at 5,v.at 6,v.at 7,(i : Int))
theorem bs {α β : Type} {o : Option α} {x : α} {f : α→Option β} {r : Option β} (h : o=some x) (k : f x=r) : o.bind f=r:=by rw [h]; exact k
theorem vloop {B : ((Int×Int×Int×Int×Int×Int×Int×Int×Int)→Option (Sl Int))→(Int×Int×Int×Int×Int×Int×Int×Int×Int)→Option (Sl Int)} (s : Arr 8) (f : Nat→Arr 8→Arr 8) (P : Arr 8→Prop) (hs : P s) (hP : ∀ i v,P v→P (f i v)) (fin : Arr 8→Option (Sl Int))
  (h : ∀ k i,i < 64→∀ v,P v→B k (vt i v)=k (vt (i+1) (f i v))) (he : ∀ k v,B k (vt 64 v)=fin v) : loopN B FUEL (s.at 0,s.at 1,s.at 2,s.at 3,s.at 4,s.at 5,s.at 6,s.at 7,0)=fin (iter f 0 64 s):=by
 have hi : ∀ n,P (iter f 0 n s):=by
  intro n
  induction n with
  | zero=>exact hs
  | succ n ih=>exact hP _ _ ih
 have h64 : (64 : Nat) < 18446744073709551615:=by omega
 have:=loop_cnt (B:=B) (fun i=>vt i (iter f 0 i s)) 0 64 (Nat.zero_le _) h64 (fin (iter f 0 64 s)) (fun k i _ hlt=>by
  have e : iter f 0 (i+1) s=f i (iter f 0 i s):=by
   show f (0+i) _=_
   rw [Nat.zero_add]
  show B k (vt i (iter f 0 i s))=k (vt (i+1) (iter f 0 (i+1) s))
  rw [e]
  exact h k i hlt _ (hi i)) (fun k=>he k _)
 exact this
theorem B605_step {a0 a2 q2 : Sl Int} (h2 : a2.l=gv0.l) (w : Arr 64) (hq2 : q2.l=w.l) (k) (i : Nat) (hi : i < 64) (v : Arr 8) (hv : U32A v) : r02_block_B397 a0 a2 q2 k (v.at 0,v.at 1,v.at 2,v.at 3,v.at 4,v.at 5,v.at 6,v.at 7,(i : Int))=k ((stepV w i v).at 0,(stepV w i v).at 1,(stepV w i v).at 2,(stepV w i v).at 3,(stepV w i v).at 4,(stepV w i v).at 5,(stepV w i v).at 6,(stepV w i v).at 7,((i+1 : Nat) : Int)):=by
 have hq2l : q2.l.length=64:=by rw [hq2]; exact w.h
 have hgl : a2.l.length=64:=by rw [h2]; exact gv0.h
 unfold r02_block_B397
 rw [if_pos (by rw [ltB]; simp; omega)]
 simp only
 have r6 : ∀ x,r02_turn x 6=some (rr x 6):=fun x=>turn_eq (n:=6) (by simp) x
 have r11 : ∀ x,r02_turn x 11=some (rr x 11):=fun x=>turn_eq (n:=11) (by simp) x
 have r25 : ∀ x,r02_turn x 25=some (rr x 25):=fun x=>turn_eq (n:=25) (by simp) x
 have r2 : ∀ x,r02_turn x 2=some (rr x 2):=fun x=>turn_eq (n:=2) (by simp) x
 have r13 : ∀ x,r02_turn x 13=some (rr x 13):=fun x=>turn_eq (n:=13) (by simp) x
 have r22 : ∀ x,r02_turn x 22=some (rr x 22):=fun x=>turn_eq (n:=22) (by simp) x
 have hk : idxL a2.l (i : Int)=some (gv0.at i):=by rw [idxL_get (by omega),h2]; rfl
 have hw : idxR 0 ((64 : Int).toNat) q2.l (i : Int)=some (w.at i):=by rw [idxR_get hq2l hi,hq2]; rfl
 refine bs (r6 _) (bs (r11 _) (bs (r25 _) (bs hk (bs hw (bs (r2 _) (bs (r13 _) (bs (r22 _) ?_)))))))
 rw [inc hi (by omega),not_sub (hv 4),iAdd_assoc32 _ (iXor .u32 (iXor .u32 (rr (v.at 0) 2) (rr (v.at 0) 13)) (rr (v.at 0) 22))]
 rfl
section
variable {s : Arr 8} {a0 a2 q2 : Sl Int} (h0 : a0.l=s.l) (h2 : a2.l=gv0.l)
include h0
theorem st_get (j : Nat) (hj : j < 8) : idxL a0.l (j : Int)=some (s.at j):=by
 have hsl : a0.l.length=8:=by rw [h0]; exact s.h
 rw [idxL_get (by omega),h0]
 rfl
theorem J3_eq (v : Arr 8) : r02_block_J3 a0 (v.at 0) (v.at 1) (v.at 2) (v.at 3) (v.at 4) (v.at 5) (v.at 6) (v.at 7)=some ⟨false,true,(iter (addV s) 0 8 v).l⟩:=by
 unfold r02_block_J3
 refine bs (st_get h0 0 (by omega)) (bs (st_get h0 1 (by omega)) (bs (st_get h0 2 (by omega)) (bs (st_get h0 3 (by omega)) (bs (st_get h0 4 (by omega)) (bs (st_get h0 5 (by omega)) (bs (st_get h0 6 (by omega)) (bs (st_get h0 7 (by omega)) ?_)))))))
 rw [addV_list]
 simp only [iAdd_comm32 (s.at _)]
include h2
theorem J2_eq (w : Arr 64) (hq2 : q2.l=w.l) (hs : U32A s) : r02_block_J2 a0 a2 q2=some ⟨false,true,(iter (addV s) 0 8 (iter (stepV w) 0 64 s)).l⟩:=by
 unfold r02_block_J2
 refine bs (st_get h0 0 (by omega)) (bs (st_get h0 1 (by omega)) (bs (st_get h0 2 (by omega)) (bs (st_get h0 3 (by omega)) (bs (st_get h0 4 (by omega)) (bs (st_get h0 5 (by omega)) (bs (st_get h0 6 (by omega)) (bs (st_get h0 7 (by omega)) ?_)))))))
 exact vloop s (stepV w) (U32A) hs (fun i v hv=>stepV_u32 w i v hv) (fun v=>some ⟨false,true,(iter (addV s) 0 8 v).l⟩) (fun k i hi v hv=>B605_step h2 w hq2 k i hi v hv) (fun k v=>by
  unfold vt r02_block_B397
  rw [if_neg (by rw [ltB]; simp)]
  exact J3_eq h0 _)
theorem J1_eq (b : Arr 64) (hb : Bytes b) (hq1 : q2.l=iter (setL b.l) 0 16 (List.replicate 64 0)) (hs : U32A s) : r02_block_J1 a0 a2 q2=some ⟨false,true,(takeA s b).l⟩:=by
 unfold r02_block_J1
 have e1 : ∀ q : Sl Int,(q,(16 : Int))=(q,((16 : Nat) : Int)):=fun _=>rfl
 rw [e1]
 refine loop_ti (fun q : Sl Int=>q.l.length=64) (fun i q=>q.put (0+i) ((fun i l=>nextL l i) i q.l)) 16 48 (by omega) _ _ (fun i q hq=>by show (List.set _ _ _).length=64; rw [List.length_set]; exact hq) (by rw [hq1]; exact (set_u32 b.l 16).2) (fun k i q hq h16 hi=>?_) (fun k q=>?_) ?_
 ·unfold r02_block_B484
  rw [if_pos (by rw [ltB]; simp; omega)]
  simp only
  have f : ∀ c : Nat,c≤16→iSub .i64 (i : Int) (c : Int)=((i - c : Nat) : Int):=fun c hc=>by rw [subw (by omega) (by omega)]; omega
  have f15 : iSub .i64 (i : Int) 15=((i - 15 : Nat) : Int):=f 15 (by omega)
  have f2 : iSub .i64 (i : Int) 2=((i - 2 : Nat) : Int):=f 2 (by omega)
  have f7 : iSub .i64 (i : Int) 7=((i - 7 : Nat) : Int):=f 7 (by omega)
  have f16 : iSub .i64 (i : Int) 16=((i - 16 : Nat) : Int):=f 16 (by omega)
  have r7 : ∀ x,r02_turn x 7=some (rr x 7):=fun x=>turn_eq (n:=7) (by simp) x
  have r18 : ∀ x,r02_turn x 18=some (rr x 18):=fun x=>turn_eq (n:=18) (by simp) x
  have r17 : ∀ x,r02_turn x 17=some (rr x 17):=fun x=>turn_eq (n:=17) (by simp) x
  have r19 : ∀ x,r02_turn x 19=some (rr x 19):=fun x=>turn_eq (n:=19) (by simp) x
  rw [f15,f2,f7,f16,idxR_get hq (by omega),Option.bind_some,idxR_get hq (by omega),Option.bind_some,r7,Option.bind_some,r18,Option.bind_some,r17,Option.bind_some,r19,Option.bind_some,idxR_get hq (by omega),Option.bind_some,idxR_get hq (by omega),Option.bind_some,idxR_get hq (by omega),Option.bind_some,inc hi (by omega),Int.toNat_natCast]
  rfl
 ·unfold r02_block_B484
  rw [if_neg (by rw [ltB]; simp),if_neg (by rw [ltB]; simp)]
 ·unfold r02_block_B484
  rw [if_neg (by rw [ltB]; simp)]
  simp only
  refine J2_eq h0 h2 (wordsA b) ?_ hs
  rw [iter_put (fun i l=>nextL l i),hq1,words_list b hb]
  rfl
theorem r02_block_eq (hs : U32A s) (b : Arr 64) (hb : Bytes b) {a1 : Sl Int} (h1 : a1.l=b.l) : r02_block a0 a1 a2=some ⟨false,true,(takeA s b).l⟩:=by
 have hbl : a1.l.length=64:=by rw [h1]; exact b.h
 unfold r02_block
 have hm : mkL 4 (0 : Int) 64 64=some (⟨false,true,List.replicate 64 0⟩ : Sl Int):=by
  unfold mkL
  rw [if_pos (by unfold maxLen; decide)]
  rfl
 refine bs hm ?_
 have e0 : ∀ q : Sl Int,(q,(0 : Int))=(q,((0 : Nat) : Int)):=fun _=>rfl
 rw [e0]
 refine loop_ti (fun q : Sl Int=>q.l.length=64) (fun i q=>q.put (0+i) ((fun i _=>wordR a1.l i) i q.l)) 0 16 (by omega) _ _ (fun i q hq=>by show (List.set _ _ _).length=64; rw [List.length_set]; exact hq) (by simp) (fun k i q hq _ hi=>?_) (fun k q=>?_) ?_
 ·unfold r02_block_B529
  rw [if_pos (by rw [ltB]; simp; omega)]
  simp only
  rw [mulw (by omega) (by omega),show (4 : Int) * (i : Int)=((4 * i : Nat) : Int) by omega,word_ref a1 hbl (by omega),Option.bind_some,idxR_get hq (by omega),Option.bind_some,inc hi (by omega),Int.toNat_natCast]
  rfl
 ·unfold r02_block_B529
  rw [if_neg (by rw [ltB]; simp),if_neg (by rw [ltB]; simp)]
 ·unfold r02_block_B529
  rw [if_neg (by rw [ltB]; simp)]
  refine J1_eq h0 h2 b hb ?_ hs
  rw [iter_put (fun i _=>wordR a1.l i),h1]
  rfl
end
theorem loop_ex {σ ρ : Type} {B : (σ→Option ρ)→σ→Option ρ} (P : σ→Prop) (Q : Option ρ→Prop) (μ : σ→Nat) (h : ∀ x,P x→(∃ x',P x'∧μ x' < μ x∧∀ k,B k x=k x')∨(∃ o,Q o∧∀ k,B k x=o)) (x : σ) (hx : P x) (hm : μ x < 18446744073709551615) : Q (loopN B FUEL x):=by
 have key : ∀ n d x,P x→μ x≤n→n < d→Q (loopN B d x):=by
  intro n
  induction n with
  | zero =>
    intro d x hp h1 h2
    obtain ⟨e,rfl⟩ : ∃ e,d=e+1:=⟨d - 1,by omega⟩
    rcases h x hp with ⟨x',_,hl,_⟩|⟨o,hq,hb⟩
    ·omega
    ·show Q (B (loopN B e) x)
     rw [hb]; exact hq
  | succ n ih =>
    intro d x hp h1 h2
    obtain ⟨e,rfl⟩ : ∃ e,d=e+1:=⟨d - 1,by omega⟩
    show Q (B (loopN B e) x)
    rcases h x hp with ⟨x',hp',hl,hb⟩|⟨o,hq,hb⟩
    ·rw [hb]; exact ih e x' hp' (by omega) (by omega)
    ·rw [hb]; exact hq
 exact key (μ x) FUEL x hx (Nat.le_refl _) (by unfold FUEL; omega)
theorem intsS_len (m : List UInt8) : (intsS m).length=m.length:=by simp [intsS]
theorem intsS_app (a b : List UInt8) : intsS (a++b)=intsS a++intsS b:=by simp [intsS]
theorem Arr.over_l {n : Nat} (a : Arr n) {o : Nat} {vs : List Int} (h : o+vs.length≤n) : (a.over o vs).l=a.l.take o++(vs++a.l.drop (o+vs.length)):=by unfold Arr.over; rw [dif_pos h]
def toA64 (m : List UInt8) : Arr 64:=(Arr.zero 64).over 0 (intsS m)
theorem toA64_l {m : List UInt8} (h : m.length=64) : (toA64 m).l=intsS m:=by
 unfold toA64
 rw [Arr.over_l _ (by rw [intsS_len]; omega),intsS_len,h]
 simp [Arr.zero]
theorem toA64_bytes {m : List UInt8} (h : m.length=64) : Bytes (toA64 m):=fun j=>by
 unfold Arr.at
 rw [toA64_l h,List.getD_eq_getElem?_getD]
 unfold intsS
 rw [List.getElem?_map]
 cases m[j]? with
 | none=>exact ⟨0,by omega,rfl⟩
 | some b=>exact ⟨b.toNat,b.toNat_lt,rfl⟩
def blocks : Nat→Arr 8→List UInt8→Arr 8
 | 0,s,_=>s
 | n+1,s,m=>blocks n (takeA s (toA64 (m.take 64))) (m.drop 64)
theorem blocks_snoc : ∀ n (s : Arr 8) (m : List UInt8),blocks (n+1) s m=takeA (blocks n s m) (toA64 ((m.drop (64 * n)).take 64))
 | 0,s,m=>rfl
 | n+1,s,m=>by
   show blocks (n+1) (takeA s (toA64 (m.take 64))) (m.drop 64)=takeA (blocks n (takeA s (toA64 (m.take 64))) (m.drop 64)) _
   rw [blocks_snoc n,List.drop_drop,show 64+64 * n=64 * (n+1) by omega]
theorem blocks_app : ∀ n (s : Arr 8) (m x : List UInt8),64 * n≤m.length→blocks n s (m++x)=blocks n s m
 | 0,s,m,x,_=>rfl
 | n+1,s,m,x,h=>by
   show blocks n (takeA s (toA64 ((m++x).take 64))) ((m++x).drop 64)=blocks n (takeA s (toA64 (m.take 64))) (m.drop 64)
   rw [List.take_append_of_le_length (by omega),List.drop_append_of_le_length (by omega)]
   exact blocks_app n _ _ _ (by simp; omega)
def s0 : Arr 8:=⟨[1779033703,3144134277,1013904242,2773480762,1359893119,2600822924,528734635,1541459225],by rfl⟩
structure Fed (m : List UInt8) (s : Arr 8) (p : Arr 64) (c : Int) : Prop where
 hs : s=blocks (m.length / 64) s0 m
 hp : p.l.take (m.length % 64)=intsS (m.drop (64 * (m.length / 64)))
 hc : c=m.length
theorem fed_new : Fed [] s0 (Arr.zero 64) 0:=⟨rfl,rfl,rfl⟩
theorem rem64 {n : Nat} : iRem (n : Int) 64=((n % 64 : Nat) : Int):=by
 unfold iRem
 exact (Int.ofNat_tmod n 64).symm
theorem cutA_from {n r : Nat} (h : r≤n) : cutA n (some (r : Int)) none=some (r,n - r):=by
 have e : boundI (some (r : Int)) 0=some r:=by unfold boundI; simp
 have e2 : boundI none n=some n:=rfl
 unfold cutA
 rw [e,e2]
 exact if_pos ⟨h,Nat.le_refl _⟩
theorem cutS_from {s : List UInt8} {r : Nat} (h : r≤s.length) : cutS s (some (r : Int)) none=some (s.drop r):=by
 have e : boundI (some (r : Int)) 0=some r:=by unfold boundI; simp
 have e2 : boundI none s.length=some s.length:=rfl
 unfold cutS
 rw [e,e2]
 simp only
 rw [if_pos ⟨h,Nat.le_refl _⟩,List.take_length]
theorem fed_step {m x : List UInt8} {s : Arr 8} {p : Arr 64} {c : Int} (h : Fed m s p c) (_hx : x≠[]) (_hl : m.length+x.length < 4611686018427387904) :
  ∃ s',Fed (m++x.take (min x.length (64 - m.length % 64))) s' (p.over (m.length % 64) (intsS (x.take (min x.length (64 - m.length % 64))))) ((m.length+min x.length (64 - m.length % 64) : Nat) : Int)
    ∧ (m.length % 64+min x.length (64 - m.length % 64)=64→s'=takeA s (p.over (m.length % 64) (intsS (x.take (min x.length (64 - m.length % 64))))))∧(m.length % 64+min x.length (64 - m.length % 64)≠64→s'=s):=by
 obtain ⟨q,hq⟩ : ∃ q,q=m.length / 64:=⟨_,rfl⟩
 obtain ⟨r,hr⟩ : ∃ r,r=m.length % 64:=⟨_,rfl⟩
 obtain ⟨n,hn⟩ : ∃ n,n=min x.length (64 - m.length % 64):=⟨_,rfl⟩
 have hm : m.length=64 * q+r:=by omega
 have hr64 : r < 64:=by omega
 have htl : (x.take n).length=n:=by rw [List.length_take]; omega
 obtain ⟨h1,h2,h3⟩:=h
 rw [← hq] at h1 h2
 rw [← hr] at h2 hn ⊢
 rw [← hn]
 have hov : (p.over r (intsS (x.take n))).l=intsS (m.drop (64 * q)++x.take n)++p.l.drop (r+n):=by
  rw [Arr.over_l _ (by rw [intsS_len,htl]; omega),h2,intsS_len,htl,intsS_app,List.append_assoc]
 have hdl : (m.drop (64 * q)).length=r:=by rw [List.length_drop]; omega
 have hda : (m++x.take n).drop (64 * q)=m.drop (64 * q)++x.take n:=List.drop_append_of_le_length (by omega)
 have hlen : (m++x.take n).length=m.length+n:=by rw [List.length_append,htl]
 by_cases hf : r+n=64
 ·refine ⟨takeA s (p.over r (intsS (x.take n))),⟨?_,?_,by rw [hlen]⟩,fun _=>rfl,fun h=>absurd hf h⟩
  ·rw [hlen,show (m.length+n) / 64=q+1 by omega,blocks_snoc,blocks_app _ _ _ _ (by omega),← h1,hda]
   have e : p.over r (intsS (x.take n))=toA64 ((m.drop (64 * q)++x.take n).take 64):=by
    have hl2 : (m.drop (64 * q)++x.take n).length=64:=by rw [List.length_append,hdl,htl]; exact hf
    have e2 : (m.drop (64 * q)++x.take n).take 64=m.drop (64 * q)++x.take n:=List.take_of_length_le (by omega)
    rw [e2]
    apply Arr.ext'
    rw [hov,toA64_l hl2,hf,(List.drop_eq_nil_of_le (by rw [p.h]; exact Nat.le_refl _) : p.l.drop 64=[]),List.append_nil]
   rw [← e]
  ·rw [hlen,show (m.length+n) % 64=0 by omega,show (m.length+n) / 64=q+1 by omega,List.drop_eq_nil_of_le (by rw [hlen]; omega)]
   rfl
 ·refine ⟨s,⟨?_,?_,by rw [hlen]⟩,fun h=>absurd h hf,fun _=>rfl⟩
  ·rw [hlen,show (m.length+n) / 64=q by omega,blocks_app _ _ _ _ (by omega),h1]
  ·rw [hlen,show (m.length+n) % 64=r+n by omega,show (m.length+n) / 64=q by omega,hda,hov,List.take_append_of_le_length (by rw [intsS_len,List.length_append,hdl,htl]; exact Nat.le_refl _)]
   exact List.take_of_length_le (by rw [intsS_len,List.length_append,hdl,htl]; exact Nat.le_refl _)
theorem add_fed {m x : List UInt8} {s : Arr 8} {p : Arr 64} {c : Int} (h : Fed m s p c) (hl : m.length+x.length < 4611686018427387904) :
  ∃ s' p',sum_Sum256_Add_2 x s p c=some (s',p',((m++x).length : Int))∧Fed (m++x) s' p' ((m++x).length : Int):=by
 unfold sum_Sum256_Add_2
 refine loop_ex (fun z : List UInt8×Arr 8×Arr 64×Int=>∃ m',m++x=m'++z.1∧Fed m' z.2.1 z.2.2.1 z.2.2.2) (fun o=>∃ s' p',o=some (s',p',((m++x).length : Int))∧Fed (m++x) s' p' ((m++x).length : Int)) (fun z=>z.1.length) (fun z hz=>?_) _ ⟨m,rfl,h⟩ (by show x.length < _; omega)
 obtain ⟨y,s,p,c⟩:=z
 obtain ⟨m',he,hF⟩:=hz
 simp only at he hF
 have hle : m'.length+y.length=m.length+x.length:=by have:=congrArg List.length he; simpa [eq_comm] using this
 cases y with
 | nil =>
   right
   refine ⟨some (s,p,c),?_,fun k=>rfl⟩
   have hc:=hF.hc
   rw [List.append_nil] at he
   rw [← he] at hF hc
   subst hc
   exact ⟨s,p,rfl,hF⟩
 | cons b y =>
   left
   obtain ⟨s',hF',hs1,hs2⟩:=fed_step hF (x:=b::y) (by simp) (by omega)
   have hc:=hF.hc
   refine ⟨((b::y).drop (min (b::y).length (64 - m'.length % 64)),s',p.over (m'.length % 64) (intsS ((b::y).take (min (b::y).length (64 - m'.length % 64)))),((m'.length+min (b::y).length (64 - m'.length % 64) : Nat) : Int)),⟨_,?_,hF'⟩,?_,fun k=>?_⟩
   ·rw [he,List.append_assoc,List.take_append_drop]
   ·show List.length (List.drop _ _) < _
    rw [List.length_drop]
    have : 0 < (b::y).length:=by simp
    show _ < (b::y).length
    omega
   ·unfold sum_Sum256_Add_2_B129
    rw [if_pos (by rw [gtB]; simp)]
    simp only
    rw [hc,rem64,cutA_from (by omega),Option.bind_some]
    simp only
    rw [cutS_from (Nat.min_le_left _ _),Option.bind_some,addw (by omega) (by omega),addw (by omega) (by omega)]
    by_cases hf : m'.length % 64+min (b::y).length (64 - m'.length % 64)=64
    ·rw [if_pos (by rw [beq_iff_eq]; omega),take_eq,Option.bind_some,← hs1 hf,Int.natCast_add]
    ·rw [if_neg (by rw [beq_iff_eq]; omega),hs2 hf,Int.natCast_add]
theorem add_eq (x : List UInt8) (z : Sum_Sum256) : sum_Sum256_Add x z=sum_Sum256_Add_2 x z.state z.part z.many:=rfl
def beB (v i : Nat) : UInt8:=UInt8.ofNat (v / 2 ^ (56 - 8 * i) % 256)
def be8 (v : Nat) : List UInt8:=(List.range 8).map (beB v)
def padZ (n : Nat) : Nat:=(119 - n % 64) % 64
def padM (m : List UInt8) : List UInt8:=m++[128]++List.replicate (padZ m.length) 0++be8 (8 * m.length)
def byteO (x : Int) (j : Nat) : Int:=IntKind.wrap .u8 (iShr .u32 x ((24 - 8 * j : Nat) : Int))
def out4 (s : Arr 8) (i : Nat) (a : Arr 32) : Arr 32:=iter (fun j (a : Arr 32)=>a.set (4 * i+j) (byteO (s.at i) j)) 0 4 a
def outA (s : Arr 8) : Arr 32:=iter (out4 s) 0 8 (Arr.zero 32)
def sha (m : List UInt8) : Arr 32:=outA (blocks ((padM m).length / 64) s0 (padM m))
theorem out_eq (s : Arr 8) (p : Arr 64) (c : Int) : sum_Sum256_Sum_J2 s p c=some (outA s):=by
 unfold sum_Sum256_Sum_J2
 have e0 : ((0 : Int),Arr.zero 32)=(((0 : Nat) : Int),Arr.zero 32):=rfl
 rw [e0]
 refine loop_it (out4 s) 0 8 (by omega) _ _ (fun k i a _ hi=>?_) (fun k a=>?_) ?_
 ·unfold sum_Sum256_Sum_B339
  rw [if_pos (by rw [ltB]; simp; omega)]
  simp only
  rw [idxN_in (show i < 8 by omega),Option.bind_some]
  have e1 : ((0 : Int),a)=(((0 : Nat) : Int),a):=rfl
  rw [e1]
  refine loop_it (fun j (a : Arr 32)=>a.set (4 * i+j) (byteO (s.at i) j)) 0 4 (by omega) a _ (fun k2 j a2 _ hj=>?_) (fun k2 a2=>?_) ?_
  ·unfold sum_Sum256_Sum_B376
   rw [if_pos (by rw [ltB]; simp; omega)]
   simp only
   have e2 : iSub .i64 24 (iMul .i64 8 (j : Int))=((24 - 8 * j : Nat) : Int):=by rw [mulw (by omega) (by omega),subw (by omega) (by omega)]; omega
   have e3 : iAdd .i64 (iMul .i64 4 (i : Int)) (j : Int)=((4 * i+j : Nat) : Int):=by rw [mulw (by omega) (by omega),addw (by omega) (by omega)]; omega
   rw [e2,e3,idxN_in (show 4 * i+j < 32 by omega),inc hj (by omega)]
   unfold shrI
   rw [if_neg (by omega),Option.bind_some,Option.bind_some]
   rfl
  ·unfold sum_Sum256_Sum_B376
   rw [if_neg (by rw [ltB]; simp),if_neg (by rw [ltB]; simp)]
  ·unfold sum_Sum256_Sum_B376
   rw [if_neg (by rw [ltB]; simp)]
   unfold sum_Sum256_Sum_J9
   simp only
   rw [inc hi (by omega)]
   rfl
 ·unfold sum_Sum256_Sum_B339
  rw [if_neg (by rw [ltB]; simp),if_neg (by rw [ltB]; simp)]
 ·unfold sum_Sum256_Sum_B339
  rw [if_neg (by rw [ltB]; simp)]
  rfl
theorem be_byte {v : Nat} (_hv : v < 4611686018427387904) {i : Nat} (hi : i < 8) : bytesS [IntKind.wrap .u8 (iShr .u64 (v : Int) ((56 - 8 * i : Nat) : Int))]=[beB v i]:=by
 have e1 : iShr .u64 (v : Int) ((56 - 8 * i : Nat) : Int)=((v / 2 ^ (56 - 8 * i) : Nat) : Int):=by
  unfold iShr
  have : min ((56 - 8 * i : Nat) : Int).toNat IntKind.u64.bits=56 - 8 * i:=by simp [IntKind.bits]; omega
  rw [this,Int.fdiv_eq_ediv_of_nonneg _ (by exact_mod_cast Nat.zero_le _)]
  norm_cast
 rw [e1]
 unfold bytesS beB
 generalize v / 2 ^ (56 - 8 * i)=w
 have e2 : IntKind.wrap .u8 (w : Int)=((w % 256 : Nat) : Int):=by simp [IntKind.wrap,IntKind.bits,IntKind.signed]
 rw [e2]
 rfl
theorem sum_fed {m : List UInt8} {s : Arr 8} {p : Arr 64} {c : Int} (h : Fed m s p c) (hl : m.length < 1099511627776) : sum_Sum256_Sum s p c=some (sha m):=by
 unfold sum_Sum256_Sum
 rw [add_eq]
 obtain ⟨s1,p1,e1,h1⟩:=add_fed h (x:=[128]) (by simp; omega)
 simp only
 rw [e1,Option.bind_some]
 simp only
 have hc:=h.hc
 refine loop_ex (fun z : Arr 8×Arr 64×Int=>∃ j,j≤padZ m.length∧Fed (m++[128]++List.replicate j 0) z.1 z.2.1 z.2.2) (fun o=>o=some (sha m)) (fun z=>(m.length+65 - z.2.2).toNat) (fun z hz=>?_) _ ⟨0,Nat.zero_le _,by simpa using h1⟩ (by simp; omega)
 obtain ⟨s2,p2,c2⟩:=z
 obtain ⟨j,hj,hF⟩:=hz
 simp only at hF ⊢
 have hc2 : c2=((m.length+1+j : Nat) : Int):=by
  have:=hF.hc
  simp at this
  omega
 have hp64 : padZ m.length < 64:=Nat.mod_lt _ (by omega)
 by_cases hz : j=padZ m.length
 ·right
  refine ⟨_,rfl,fun k=>?_⟩
  unfold sum_Sum256_Sum_B416
  simp only
  rw [if_neg (by rw [hc2,rem64,hz]; unfold padZ; simp; omega)]
  unfold sum_Sum256_Sum_J1
  subst hz
  have hfin : ∀ s' p' c',Fed (padM m) s' p' c'→sum_Sum256_Sum_J2 s' p' c'=some (sha m):=fun s' p' c' hf=>by
   rw [out_eq,hf.hs]; rfl
  refine loop_ex (fun z : Int×Arr 8×Arr 64×Int=>∃ i : Nat,i≤8∧z.1=56 - 8 * (i : Int)∧Fed (m++[128]++List.replicate (padZ m.length) 0++(List.range i).map (beB (8 * m.length))) z.2.1 z.2.2.1 z.2.2.2) (fun o=>o=some (sha m)) (fun z=>(z.1+8).toNat) (fun z hz=>?_) _ ⟨0,by omega,rfl,by simpa using hF⟩ (by simp)
  obtain ⟨x,s3,p3,c3⟩:=z
  obtain ⟨i,hi,hx,hF3⟩:=hz
  simp only at hx hF3 ⊢
  by_cases hi8 : i=8
  ·right
   refine ⟨_,rfl,fun k=>?_⟩
   unfold sum_Sum256_Sum_B399
   rw [if_neg (by rw [geB]; simp; omega)]
   subst hi8
   exact hfin _ _ _ hF3
  ·left
   obtain ⟨s4,p4,e4,h4⟩:=add_fed hF3 (x:=[beB (8 * m.length) i]) (by simp; omega)
   refine ⟨(x - 8,s4,p4,((m++[128]++List.replicate (padZ m.length) 0++(List.range i).map (beB (8 * m.length))++[beB (8 * m.length) i]).length : Int)),⟨i+1,by omega,by simp only; omega,?_⟩,by simp only; omega,fun k=>?_⟩
   ·simp only
    rw [List.range_succ,List.map_append,← List.append_assoc]
    exact h4
   ·unfold sum_Sum256_Sum_B399
    rw [if_pos (by rw [geB]; simp; omega)]
    simp only
    have ex : x=((56 - 8 * i : Nat) : Int):=by omega
    have ev : iMul .u64 (IntKind.wrap .u64 c) 8=((8 * m.length : Nat) : Int):=by
     rw [hc]
     simp [iMul,IntKind.wrap,IntKind.bits,IntKind.signed]
     omega
    rw [ev,subw (by omega) (by omega)]
    unfold shrI
    rw [if_neg (by omega),Option.bind_some,ex,be_byte (by omega) (by omega),e4,Option.bind_some]
 ·left
  obtain ⟨s3,p3,e3,h3⟩:=add_fed hF (x:=[0]) (by simp; omega)
  refine ⟨(s3,p3,((m++[128]++List.replicate j 0++[0]).length : Int)),⟨j+1,by omega,?_⟩,?_,fun k=>?_⟩
  ·simp only
   rw [List.replicate_succ',← List.append_assoc]
   exact h3
  ·rw [hc2]; simp; omega
  ·unfold sum_Sum256_Sum_B416
   simp only
   rw [if_pos (by rw [hc2,rem64]; unfold padZ at hz hj; simp; omega),e3,Option.bind_some]
theorem sum_eq (m : List UInt8) (hl : m.length < 1099511627776) : sum_Sum m=some (sha m):=by
 unfold sum_Sum sum_New
 rw [Option.bind_some,add_eq]
 obtain ⟨s1,p1,e1,h1⟩:=add_fed fed_new (x:=m) (by simp; omega)
 have e1' : sum_Sum256_Add_2 m s0 (Arr.zero 64) 0=_:=e1
 simp only
 rw [show (⟨[1779033703,3144134277,1013904242,2773480762,1359893119,2600822924,528734635,1541459225],by rfl⟩ : Arr 8)=s0 from rfl,e1',Option.bind_some]
 simp only
 rw [List.nil_append] at h1
 rw [List.nil_append,sum_fed h1 hl,Option.bind_some]
theorem takeA_u32 (s : Arr 8) (b : Arr 64) : U32A (takeA s b):=fun j=>by
 unfold takeA Arr.at
 rw [addV_list]
 match j with
 | 0=>exact u32_add _ _
 | 1=>exact u32_add _ _
 | 2=>exact u32_add _ _
 | 3=>exact u32_add _ _
 | 4=>exact u32_add _ _
 | 5=>exact u32_add _ _
 | 6=>exact u32_add _ _
 | 7=>exact u32_add _ _
 | j+8=>exact ⟨Int.le_refl 0,show (0 : Int) < 4294967296 by decide⟩
theorem s0_u32 : U32A s0:=fun j=>by
 match j with
 | 0=>exact ⟨by decide,by decide⟩
 | 1=>exact ⟨by decide,by decide⟩
 | 2=>exact ⟨by decide,by decide⟩
 | 3=>exact ⟨by decide,by decide⟩
 | 4=>exact ⟨by decide,by decide⟩
 | 5=>exact ⟨by decide,by decide⟩
 | 6=>exact ⟨by decide,by decide⟩
 | 7=>exact ⟨by decide,by decide⟩
 | j+8=>exact ⟨Int.le_refl 0,show (0 : Int) < 4294967296 by decide⟩
theorem blocks_u32 : ∀ n (s : Arr 8) (m : List UInt8),U32A s→U32A (blocks n s m)
 | 0,_,_,h=>h
 | n+1,s,_,_=>blocks_u32 n _ _ (takeA_u32 s _)
theorem byteQ {x : Int} (h : U32 x) : IntKind.wrap .u8 (iQuo .u32 x 16777216)=byteO x 0∧IntKind.wrap .u8 (iRem (iQuo .u32 x 65536) 256)=byteO x 1∧IntKind.wrap .u8 (iRem (iQuo .u32 x 256) 256)=byteO x 2∧IntKind.wrap .u8 (iRem x 256)=byteO x 3:=by
 have hm : ∀ y : Int,0≤y→IntKind.wrap .u8 (iRem y 256)=IntKind.wrap .u8 y:=fun y hy=>by
  unfold iRem
  rw [Int.tmod_eq_emod_of_nonneg hy]
  simp [IntKind.wrap,IntKind.bits,IntKind.signed]
 have q0 : iQuo .u32 x 16777216=iShr .u32 x 24:=quo_shr h 24 (by omega)
 have q1 : iQuo .u32 x 65536=iShr .u32 x 16:=quo_shr h 16 (by omega)
 have q2 : iQuo .u32 x 256=iShr .u32 x 8:=quo_shr h 8 (by omega)
 have q3 : iShr .u32 x 0=x:=by unfold iShr; simp
 have p1 : 0≤iQuo .u32 x 65536:=(u32_wrap _).1
 have p2 : 0≤iQuo .u32 x 256:=(u32_wrap _).1
 rw [hm _ p1,hm _ p2,hm _ h.1,q0,q1,q2]
 refine ⟨rfl,rfl,rfl,?_⟩
 show _=IntKind.wrap .u8 (iShr .u32 x 0)
 rw [q3]
theorem r02_out {s : Arr 8} (hu : U32A s) {q : Sl Int} (hq : q.l=s.l) : r02_Sum_J3 q=some (outA s):=by
 have hql : q.l.length=8:=by rw [hq]; exact s.h
 unfold r02_Sum_J3
 refine loop_it (out4 s) 0 8 (by omega) (Arr.zero 32) _ (fun k i a _ hi=>?_) (fun k a=>?_) ?_
 ·unfold r02_Sum_B189
  rw [if_pos (by rw [ltB]; simp; omega)]
  simp only
  have f0 : iMul .i64 4 (i : Int)=((4 * i : Nat) : Int):=by rw [mulw (by omega) (by omega)]; omega
  have f1 : iAdd .i64 ((4 * i : Nat) : Int) 1=((4 * i+1 : Nat) : Int):=by rw [addw (by omega) (by omega)]; omega
  have f2 : iAdd .i64 ((4 * i : Nat) : Int) 2=((4 * i+2 : Nat) : Int):=by rw [addw (by omega) (by omega)]; omega
  have f3 : iAdd .i64 ((4 * i : Nat) : Int) 3=((4 * i+3 : Nat) : Int):=by rw [addw (by omega) (by omega)]; omega
  have g : q.l.getD i 0=s.at i:=by rw [hq]; rfl
  obtain ⟨b0,b1,b2,b3⟩:=byteQ (hu i)
  rw [f0,f1,f2,f3,idxL_get (by omega),Option.bind_some,idxN_in (show 4 * i < 32 by omega),Option.bind_some,idxN_in (show 4 * i+1 < 32 by omega),Option.bind_some,idxN_in (show 4 * i+2 < 32 by omega),Option.bind_some,idxN_in (show 4 * i+3 < 32 by omega),Option.bind_some,inc hi (by omega),g,b0,b1,b2,b3]
  rfl
 ·unfold r02_Sum_B189
  rw [if_neg (by rw [ltB]; simp),if_neg (by rw [ltB]; simp)]
 ·unfold r02_Sum_B189
  rw [if_neg (by rw [ltB]; simp)]
  rfl
theorem cutL_at {x : Sl Int} {i n : Nat} (h : i+n≤x.l.length) : ∃ y,cutL x (some (i : Int)) (some ((i+n : Nat) : Int)) none=some y∧y.l=(x.l.drop i).take n:=by
 have e : boundI (some (i : Int)) 0=some i:=by unfold boundI; simp
 have e2 : boundI (some ((i+n : Nat) : Int)) x.l.length=some (i+n):=by unfold boundI; simp; omega
 have e3 : boundI none x.l.length=some x.l.length:=rfl
 unfold cutL
 rw [e,e2,e3]
 simp only
 rw [if_pos ⟨by omega,h,Nat.le_refl _⟩]
 refine ⟨_,rfl,?_⟩
 show (x.l.take (i+n)).drop i=_
 rw [List.drop_take,Nat.add_sub_cancel_left]
theorem r02_blocks {pm : List UInt8} {q : Nat} (hpm : pm.length=64 * q) (hq : q < 1099511627776) {y8 : Sl Int} (h8 : y8.l=intsS pm) {y9 : Sl Int} (h9 : y9.l=gv0.l) (x0 : Sl Int) (hx0 : x0.l=s0.l) : loopN (r02_Sum_B217 y8 y9) FUEL (x0,0)=some (outA (blocks q s0 pm)):=by
 refine loop_ex (fun z : Sl Int×Int=>∃ n : Nat,n≤q∧z.2=((64 * n : Nat) : Int)∧z.1.l=(blocks n s0 pm).l) (fun o=>o=some (outA (blocks q s0 pm))) (fun z=>(64 * (q : Int) - z.2).toNat) (fun z hz=>?_) _ ⟨0,by omega,rfl,hx0⟩ (by simp; omega)
 obtain ⟨x,i⟩:=z
 obtain ⟨n,hn,hi,hx⟩:=hz
 simp only at hi hx ⊢
 subst hi
 have hl8 : y8.l.length=64 * q:=by rw [h8,intsS_len,hpm]
 have hu:=blocks_u32 n s0 pm s0_u32
 by_cases hnq : n=q
 ·right
  refine ⟨_,rfl,fun k=>?_⟩
  unfold r02_Sum_B217
  simp only
  rw [if_neg (by rw [ltB,hl8]; simp; omega)]
  subst hnq
  exact r02_out hu hx
 ·left
  obtain ⟨y,e1,e2⟩:=cutL_at (x:=y8.weak) (i:=64 * n) (n:=64) (by show _≤y8.l.length; omega)
  have hyl : ((pm.drop (64 * n)).take 64).length=64:=by rw [List.length_take,List.length_drop]; omega
  have e3 : y.l=(toA64 ((pm.drop (64 * n)).take 64)).l:=by
   rw [e2,toA64_l hyl]
   show ((y8.l).drop _).take _=_
   rw [h8]
   simp [intsS]
  refine ⟨(⟨false,true,(takeA (blocks n s0 pm) (toA64 ((pm.drop (64 * n)).take 64))).l⟩,((64 * (n+1) : Nat) : Int)),⟨n+1,by omega,rfl,?_⟩,by simp only; omega,fun k=>?_⟩
  ·simp only
   rw [blocks_snoc]
  ·unfold r02_Sum_B217
   simp only
   rw [if_pos (by rw [ltB,hl8]; simp; omega)]
   have ei : iAdd .i64 ((64 * n : Nat) : Int) 64=((64 * n+64 : Nat) : Int):=by rw [addw (by omega) (by omega)]; omega
   rw [ei,e1,Option.bind_some,r02_block_eq hx h9 hu _ (toA64_bytes hyl) e3,Option.bind_some,show 64 * (n+1)=64 * n+64 by omega]
theorem rounds_eq : ∃ y,r02_rounds=some y∧y.l=gv0.l:=⟨_,rfl,rfl⟩
theorem appL_1 {x : Sl Int} {ys : List Int} (h : x.l.length+ys.length < 70368744177664) : appL 1 x ys=some ⟨x.nl&&ys.length==0,false,x.l++ys⟩:=by
 unfold appL moreOk maxLen
 rw [if_pos]
 simp
 omega
theorem be8_drop (v j : Nat) (h : j < 8) : (be8 v).drop (7 - j)=beB v (7 - j)::(be8 v).drop (8 - j):=by
 have hl : (be8 v).length=8:=by simp [be8]
 rw [List.drop_eq_getElem_cons (by omega),show 7 - j+1=8 - j by omega]
 congr 1
 simp [be8]
theorem r02_J2_eq (m : List UInt8) (hl : m.length < 1099511627776) {x y : Sl Int} (hx : x.l=intsS (m++[128]++List.replicate (padZ m.length) 0)) (hy : y.l=intsS (be8 (8 * m.length))) : r02_Sum_J2 x y=some (sha m):=by
 unfold r02_Sum_J2
 have hp64 : padZ m.length < 64:=Nat.mod_lt _ (by omega)
 have h8 : (be8 (8 * m.length)).length=8:=by simp [be8]
 rw [appL_1 (by rw [hx,hy,intsS_len,intsS_len,h8]; simp; omega),Option.bind_some]
 obtain ⟨y9,e9,h9⟩:=rounds_eq
 rw [e9,Option.bind_some]
 have hpl : (padM m).length=64 * ((padM m).length / 64):=by
  have : (padM m).length=m.length+1+padZ m.length+8:=by unfold padM; simp [h8]; omega
  rw [this]
  unfold padZ
  omega
 have hpb : (padM m).length / 64 < 1099511627776:=by
  have : (padM m).length=m.length+1+padZ m.length+8:=by unfold padM; simp [h8]; omega
  omega
 exact r02_blocks hpl hpb (y8:=⟨x.nl&&y.l.length==0,false,x.l++y.l⟩) (by show x.l++y.l=_; rw [hx,hy,← intsS_app]; rfl) h9 _ rfl
theorem r02_J1_eq (m : List UInt8) (hl : m.length < 1099511627776) {x : Sl Int} (hx : x.l=intsS (m++[128]++List.replicate (padZ m.length) 0)) : r02_Sum_J1 m x=some (sha m):=by
 unfold r02_Sum_J1
 have e0 : iMul .i64 (m.length : Int) 8=((8 * m.length : Nat) : Int):=by rw [mulw (by omega) (by omega)]; omega
 rw [e0]
 have h8 : (be8 (8 * m.length)).length=8:=by simp [be8]
 refine loop_ex (fun z : Int×Sl Int×Int=>∃ j : Nat,j≤8∧z.1=((8 * m.length / 2 ^ (8 * j) : Nat) : Int)∧z.2.1.l=intsS ((be8 (8 * m.length)).drop (8 - j))∧z.2.2=j) (fun o=>o=some (sha m)) (fun z=>(8 - z.2.2).toNat) (fun z hz=>?_) _ ⟨0,by omega,by simp,by rw [List.drop_eq_nil_of_le (by omega)]; rfl,rfl⟩ (by simp)
 obtain ⟨v,y,i⟩:=z
 obtain ⟨j,hj,hv,hy,hi⟩:=hz
 simp only at hv hy hi ⊢
 subst hi hv
 by_cases hj8 : j=8
 ·right
  refine ⟨_,rfl,fun k=>?_⟩
  subst hj8
  unfold r02_Sum_B236
  rw [if_neg (by rw [ltB]; simp)]
  exact r02_J2_eq m hl hx hy
 ·left
  have hyl : y.l.length≤8:=by rw [hy,intsS_len,List.length_drop,h8]; omega
  refine ⟨(((8 * m.length / 2 ^ (8 * (j+1)) : Nat) : Int),⟨false,false,intsS ((be8 (8 * m.length)).drop (7 - j))⟩,((j+1 : Nat) : Int)),⟨j+1,by omega,rfl,by simp only; rw [show 8 - (j+1)=7 - j by omega],rfl⟩,by simp only; omega,fun k=>?_⟩
  unfold r02_Sum_B236
  rw [if_pos (by rw [ltB]; simp; omega)]
  simp only
  rw [appL_1 (by simp; omega),Option.bind_some,inc (show j < 8 by omega) (by omega)]
  have ev : iQuo .i64 ((8 * m.length / 2 ^ (8 * j) : Nat) : Int) 256=((8 * m.length / 2 ^ (8 * (j+1)) : Nat) : Int):=by
   have hb : 8 * m.length / 2 ^ (8 * j)≤8 * m.length:=Nat.div_le_self _ _
   rw [show 8 * (j+1)=8 * j+8 by omega,Nat.pow_add,← Nat.div_div_eq_div_mul]
   generalize 8 * m.length / 2 ^ (8 * j)=w at *
   unfold iQuo
   have : ((w : Int).tdiv 256)=((w / 256 : Nat) : Int):=(Int.ofNat_tdiv w 256).symm
   rw [this]
   simp [IntKind.wrap,IntKind.bits,IntKind.signed]
   omega
  have eb : IntKind.wrap .u8 (iRem ((8 * m.length / 2 ^ (8 * j) : Nat) : Int) 256)=((beB (8 * m.length) (7 - j)).toNat : Int):=by
   unfold beB
   rw [show 56 - 8 * (7 - j)=8 * j by omega]
   generalize 8 * m.length / 2 ^ (8 * j)=w
   have : iRem (w : Int) 256=((w % 256 : Nat) : Int):=by unfold iRem; exact (Int.ofNat_tmod w 256).symm
   rw [this]
   simp [IntKind.wrap,IntKind.bits,IntKind.signed]
  rw [ev,eb,be8_drop _ _ (by omega),hy]
  rfl
theorem r02_eq (m : List UInt8) (hl : m.length < 1099511627776) : r02_Sum m=some (sha m):=by
 unfold r02_Sum
 have et : toBytes m=some ⟨false,false,intsS m⟩:=by unfold toBytes maxLen; rw [if_pos (by omega)]
 rw [et,Option.bind_some,appL_1 (by simp [intsS_len]; omega),Option.bind_some]
 refine loop_ex (fun z : Sl Int=>∃ j : Nat,j≤padZ m.length∧z.l=intsS (m++[128]++List.replicate j 0)) (fun o=>o=some (sha m)) (fun z=>m.length+65 - z.l.length) (fun z hz=>?_) _ ⟨0,by omega,by simp [intsS]⟩ (by simp; omega)
 obtain ⟨j,hj,hz⟩:=hz
 have hp64 : padZ m.length < 64:=Nat.mod_lt _ (by omega)
 have hzl : z.l.length=m.length+1+j:=by rw [hz,intsS_len]; simp; omega
 by_cases hjz : j=padZ m.length
 ·right
  refine ⟨_,rfl,fun k=>?_⟩
  unfold r02_Sum_B249
  rw [if_neg (by rw [hzl,rem64,hjz]; unfold padZ; simp; omega)]
  exact r02_J1_eq m hl (by rw [hz,hjz])
 ·left
  refine ⟨⟨z.nl&&false,false,z.l++[0]⟩,⟨j+1,by omega,?_⟩,by simp; omega,fun k=>?_⟩
  ·simp only
   rw [hz,List.replicate_succ',← List.append_assoc,intsS_app (m++[128]++List.replicate j 0) [0]]
   rfl
  ·unfold r02_Sum_B249
   rw [if_pos (by rw [hzl,rem64]; unfold padZ at hjz hj; simp; omega),appL_1 (by simp; omega),Option.bind_some]
   rfl
def byA (a : Arr 32) : List UInt8:=bytesS a.l
theorem byA_len (a : Arr 32) : (byA a).length=32:=by simp [byA,bytesS,a.h]
theorem mac_Bytes_eq (a : Arr 32) : mac_Bytes a=some (byA a):=by
 unfold mac_Bytes
 have e : cutA 32 none none=some (0,32):=rfl
 rw [e,Option.bind_some]
 unfold byA
 rw [List.drop_zero,List.take_of_length_le (by rw [a.h]; exact Nat.le_refl _)]
theorem loop_app {ρ : Type} {B : (Sl Int×Int→Option ρ)→Sl Int×Int→Option ρ} (N : Nat) (hN : N < 1000) (f : Nat→Int) (Q : Option ρ→Prop) (hb : ∀ k x i,i < N→B k (x,(i : Int))=(appL 1 x [f i]).bind fun y=>k (y,((i+1 : Nat) : Int))) (he : ∀ x : Sl Int,x.l=(List.range N).map f→∃ o,Q o∧∀ k,B k (x,(N : Int))=o) (x : Sl Int) (hx : x.l=[]) : Q (loopN B FUEL (x,0)):=by
 refine loop_ex (fun z : Sl Int×Int=>∃ i : Nat,i≤N∧z.2=i∧z.1.l=(List.range i).map f) Q (fun z=>((N : Int) - z.2).toNat) (fun z hz=>?_) _ ⟨0,by omega,rfl,hx⟩ (by simp; omega)
 obtain ⟨x,i⟩:=z
 obtain ⟨n,hn,hi,hx⟩:=hz
 simp only at hi hx ⊢
 subst hi
 by_cases hnN : n=N
 ·right
  subst hnN
  exact he x hx
 ·left
  have hl : x.l.length=n:=by rw [hx]; simp
  refine ⟨(⟨x.nl&&false,false,x.l++[f n]⟩,((n+1 : Nat) : Int)),⟨n+1,by omega,rfl,by simp [hx,List.range_succ]⟩,by simp only; omega,fun k=>?_⟩
  rw [hb k x n (by omega),appL_1 (by simp; omega),Option.bind_some]
  rfl
theorem range_get {n : Nat} (a : Arr n) : (List.range n).map a.at=a.l:=by
 refine List.ext_getElem (by simp [a.h]) fun i h1 h2=>?_
 simp [Arr.at,List.getElem?_eq_getElem h2]
theorem r02_Bytes_eq (a : Arr 32) : r02_Bytes a=some (byA a):=by
 unfold r02_Bytes
 refine loop_app 32 (by omega) a.at (fun o=>o=some (byA a)) (fun k x i hi=>?_) (fun x hx=>⟨_,rfl,fun k=>?_⟩) _ rfl
 ·unfold r02_Bytes_B312
  rw [if_pos (by rw [ltB]; simp; omega)]
  simp only
  rw [idxN_in hi,Option.bind_some,inc hi (by omega)]
  rfl
 ·unfold r02_Bytes_B312
  rw [if_neg (by rw [ltB]; simp)]
  show some (bytesS x.l)=_
  rw [hx,range_get]
  rfl
def keyB (k : List UInt8) : List UInt8:=if 64 < k.length then byA (sha k) else k
def padOf (c : Int) (k : List UInt8) : List UInt8:=bytesS ((List.range 64).map fun i=>iXor .u8 ((intsS k).getD i 0) c)
theorem padOf_len (c : Int) (k : List UInt8) : (padOf c k).length=64:=by simp [padOf,bytesS]
theorem mac_of_eq (k : List UInt8) (hl : k.length < 1099511627776) : ∃ a,mac_of k=some a∧∀ i,a.at i=(intsS (keyB k)).getD i 0:=by
 have hJ : ∀ p : List UInt8,p.length≤64→∃ a,mac_of_J1 p=some a∧∀ i,a.at i=(intsS p).getD i 0:=fun p hp=>by
  unfold mac_of_J1
  have e : cutA 64 none none=some (0,64):=rfl
  rw [e,Option.bind_some]
  refine ⟨_,rfl,fun i=>?_⟩
  simp only
  rw [show min p.length 64=p.length by omega,List.take_length]
  unfold Arr.at
  rw [Arr.over_l _ (by rw [intsS_len]; omega),intsS_len,List.take_zero,List.nil_append,List.getD_eq_getElem?_getD,List.getD_eq_getElem?_getD]
  by_cases h : i < p.length
  ·rw [List.getElem?_append_left (by rw [intsS_len]; exact h)]
  ·rw [List.getElem?_append_right (by rw [intsS_len]; omega),List.getElem?_eq_none (l:=intsS p) (by rw [intsS_len]; omega)]
   simp only [Arr.zero,List.drop_replicate,List.getElem?_replicate]
   split<;>rfl
 unfold mac_of keyB
 by_cases h : 64 < k.length
 ·rw [if_pos (by rw [gtB]; simp; omega),if_pos h,sum_eq k hl,Option.bind_some,mac_Bytes_eq,Option.bind_some]
  exact hJ _ (by rw [byA_len]; omega)
 ·rw [if_neg (by rw [gtB]; simp; omega),if_neg h]
  exact hJ _ (by omega)
theorem mac_pad_eq (c : Int) (a : Arr 64) (k : List UInt8) (h : ∀ i,a.at i=(intsS k).getD i 0) : mac_Tag_1 c a=some (padOf c k):=by
 unfold mac_Tag_1
 have hm : mkL 1 (0 : Int) 0 64=some (⟨false,true,[]⟩ : Sl Int):=by
  unfold mkL
  rw [if_pos (by unfold maxLen; decide)]
  rfl
 refine bs hm ?_
 refine loop_app 64 (by omega) (fun i=>iXor .u8 ((intsS k).getD i 0) c) (fun o=>o=some (padOf c k)) (fun kk x i hi=>?_) (fun x hx=>⟨_,rfl,fun kk=>?_⟩) _ rfl
 ·unfold mac_Tag_1_B56
  rw [if_pos (by rw [ltB]; simp; omega)]
  simp only
  rw [idxN_in hi,Option.bind_some,inc hi (by omega),h i]
  rfl
 ·unfold mac_Tag_1_B56
  rw [if_neg (by rw [ltB]; simp)]
  show some (bytesS x.l)=_
  rw [hx]
  rfl
theorem r03_pad_eq (c : Int) (k : List UInt8) (hl : k.length < 1099511627776) : r03_pad k c=some (padOf c (keyB k)):=by
 have hJ : ∀ p : List UInt8,r03_pad_J1 c p=some (padOf c p):=fun p=>by
  unfold r03_pad_J1
  refine loop_app 64 (by omega) (fun i=>iXor .u8 ((intsS p).getD i 0) c) (fun o=>o=some (padOf c p)) (fun kk x i hi=>?_) (fun x hx=>⟨_,rfl,fun kk=>?_⟩) _ rfl
  ·unfold r03_pad_B177
   rw [if_pos (by rw [ltB]; simp; omega)]
   simp only
   by_cases h : i < p.length
   ·rw [if_pos (by rw [ltB]; simp; omega)]
    have e : idxB p (i : Int)=some ((intsS p).getD i 0):=by
     unfold idxB
     rw [if_pos (by omega),Int.toNat_natCast,List.getD_eq_getElem?_getD,List.getElem?_eq_getElem h]
     unfold intsS
     rw [List.getElem?_map,List.getElem?_eq_getElem h]
     rfl
    rw [e,Option.bind_some]
    unfold r03_pad_J18
    simp only
    rw [inc hi (by omega)]
    rfl
   ·rw [if_neg (by rw [ltB]; simp; omega)]
    unfold r03_pad_J18
    simp only
    rw [inc hi (by omega),List.getD_eq_getElem?_getD,List.getElem?_eq_none (by rw [intsS_len]; omega)]
    rfl
  ·unfold r03_pad_B177
   rw [if_neg (by rw [ltB]; simp)]
   show some (bytesS x.l)=_
   rw [hx]
   rfl
 unfold r03_pad keyB
 by_cases h : 64 < k.length
 ·rw [if_pos (by rw [gtB]; simp; omega),if_pos h,r02_eq k hl,Option.bind_some,r02_Bytes_eq,Option.bind_some,hJ]
 ·rw [if_neg (by rw [gtB]; simp; omega),if_neg h,hJ]
def hm (k m : List UInt8) : Arr 32:=sha (padOf 92 (keyB k)++byA (sha (padOf 54 (keyB k)++m)))
theorem catS_in {a b : List UInt8} (h : a.length+b.length < 9223372036854775807) : catS a b=some (a++b):=by unfold catS; rw [if_pos (by omega)]
theorem r03_Tag_eq (k m : List UInt8) (hk : k.length < 1099511627776) (hm' : m.length < 549755813888) : r03_Tag k m=some (hm k m):=by
 unfold r03_Tag
 rw [r03_pad_eq _ k hk,Option.bind_some,catS_in (by rw [padOf_len]; omega),Option.bind_some,r02_eq _ (by rw [List.length_append,padOf_len]; omega),Option.bind_some,r02_Bytes_eq,Option.bind_some,r03_pad_eq _ k hk,Option.bind_some,catS_in (by rw [padOf_len,byA_len]; omega),Option.bind_some,r02_eq _ (by rw [List.length_append,padOf_len,byA_len]; omega),Option.bind_some]
 rfl
theorem mac_Tag_eq (k : List UInt8) (x : Sl (List UInt8)) (hk : k.length < 1099511627776) (hx : x.l.flatten.length < 549755813888) (hn : x.l.length < 4611686018427387904) : mac_Tag k x=some (hm k x.l.flatten):=by
 unfold mac_Tag
 obtain ⟨a,ea,ha⟩:=mac_of_eq k hk
 rw [ea,Option.bind_some]
 unfold sum_New
 rw [Option.bind_some,mac_pad_eq _ a _ ha,Option.bind_some,add_eq]
 obtain ⟨s1,p1,e1,h1⟩:=add_fed fed_new (x:=padOf 54 (keyB k)) (by simp [padOf_len])
 have e1' : sum_Sum256_Add_2 (padOf 54 (keyB k)) s0 (Arr.zero 64) 0=_:=e1
 simp only
 rw [show (⟨[1779033703,3144134277,1013904242,2773480762,1359893119,2600822924,528734635,1541459225],by rfl⟩ : Arr 8)=s0 from rfl,e1',Option.bind_some]
 simp only
 rw [List.nil_append] at h1 ⊢
 have hfl : ∀ n,(x.l.take n).flatten.length≤x.l.flatten.length:=fun n=>by
  have : x.l.flatten=(x.l.take n).flatten++(x.l.drop n).flatten:=by rw [← List.flatten_append,List.take_append_drop]
  rw [this,List.length_append]
  omega
 refine loop_ex (fun z : Int×Arr 8×Arr 64×Int=>∃ n : Nat,n≤x.l.length∧z.1=n∧Fed (padOf 54 (keyB k)++(x.l.take n).flatten) z.2.1 z.2.2.1 z.2.2.2) (fun o=>o=some (hm k x.l.flatten)) (fun z=>((x.l.length : Int) - z.1).toNat) (fun z hz=>?_) _ ⟨0,by omega,rfl,by simpa using h1⟩ (by simp; omega)
 obtain ⟨i,s,p,c⟩:=z
 obtain ⟨n,hn1,hi,hF⟩:=hz
 simp only at hi hF ⊢
 subst hi
 by_cases hnl : n=x.l.length
 ·right
  refine ⟨_,rfl,fun kk=>?_⟩
  unfold mac_Tag_B59
  simp only
  rw [if_neg (by rw [ltB]; simp; omega)]
  unfold mac_Tag_J1
  rw [hnl,List.take_length] at hF
  rw [mac_pad_eq _ a _ ha,Option.bind_some,sum_fed hF (by rw [List.length_append,padOf_len]; omega),Option.bind_some,mac_Bytes_eq,Option.bind_some,catS_in (by rw [padOf_len,byA_len]; omega),Option.bind_some,sum_eq _ (by rw [List.length_append,padOf_len,byA_len]; omega),Option.bind_some]
  rfl
 ·left
  have hlt : n < x.l.length:=by omega
  have ht : (x.l.take (n+1)).flatten=(x.l.take n).flatten++x.l[n]:=by
   rw [List.take_succ_eq_append_getElem hlt,List.flatten_append]
   simp
  have hb:=hfl (n+1)
  rw [ht,List.length_append] at hb
  obtain ⟨s2,p2,e2,h2⟩:=add_fed hF (x:=x.l[n]) (by rw [List.length_append,padOf_len]; omega)
  refine ⟨(((n+1 : Nat) : Int),s2,p2,((padOf 54 (keyB k)++(x.l.take n).flatten++x.l[n]).length : Int)),⟨n+1,by omega,rfl,?_⟩,by simp only; omega,fun kk=>?_⟩
  ·simp only
   rw [ht,← List.append_assoc]
   exact h2
  ·unfold mac_Tag_B59
   simp only
   rw [if_pos (by rw [ltB]; simp; omega),idx_in hlt,Option.bind_some,e2,Option.bind_some,inc hlt (by omega)]
   rfl
def frc {α : Type} (x : Nat) (f : Nat→α) : α:=match x with
 | 0=>f 0
 | n+1=>f (Nat.succ n)
theorem frc_eq {α : Type} (x : Nat) (f : Nat→α) : frc x f=f x:=by cases x<;>rfl
def rN (x n : Nat) : Nat:=Nat.lor (Nat.mod (Nat.mul x (Nat.pow 2 (Nat.sub 32 n))) 4294967296) (Nat.div x (Nat.pow 2 n))
def g0N (x : Nat) : Nat:=Nat.xor (Nat.xor (rN x 7) (rN x 18)) (Nat.div x 8)
def g1N (x : Nat) : Nat:=Nat.xor (Nat.xor (rN x 17) (rN x 19)) (Nat.div x 1024)
def wN (l : List Nat) : Nat:=Nat.mod (Nat.add (Nat.add (Nat.add (g1N (l.getD 1 0)) (l.getD 6 0)) (g0N (l.getD 14 0))) (l.getD 15 0)) 4294967296
def extN : Nat→List Nat→List Nat
 | 0,l=>l
 | n+1,l=>frc (wN l) fun w=>extN n (w::l)
def firN : Nat→List Nat→List Nat→List Nat
 | 0,_,l=>l
 | n+1,b,l=>frc (Nat.add (Nat.mul (Nat.add (Nat.mul (Nat.add (Nat.mul (b.getD 0 0) 256) (b.getD 1 0)) 256) (b.getD 2 0)) 256) (b.getD 3 0)) fun w=>firN n (b.drop 4) (w::l)
def rndN : List Nat→List Nat→Nat→Nat→Nat→Nat→Nat→Nat→Nat→Nat→List Nat
 | [],_,a,b,c,d,e,f,g,h=>[a,b,c,d,e,f,g,h]
 | k::ks,ws,a,b,c,d,e,f,g,h =>
   frc (Nat.add (Nat.add (Nat.add (Nat.add h (Nat.xor (Nat.xor (rN e 6) (rN e 11)) (rN e 25))) (Nat.xor (Nat.land e f) (Nat.land (Nat.sub 4294967295 e) g))) k) (ws.getD 0 0)) fun t =>
   frc (Nat.mod (Nat.add t (Nat.add (Nat.xor (Nat.xor (rN a 2) (rN a 13)) (rN a 22)) (Nat.xor (Nat.xor (Nat.land a b) (Nat.land a c)) (Nat.land b c)))) 4294967296) fun a' =>
   frc (Nat.mod (Nat.add d t) 4294967296) fun e'=>rndN ks (ws.drop 1) a' a b c e' e f g
def kN : List Nat:=gv0.l.map Int.toNat
def addN (v s : List Nat) : List Nat :=
 frc (Nat.mod (Nat.add (v.getD 0 0) (s.getD 0 0)) 4294967296) fun a=>frc (Nat.mod (Nat.add (v.getD 1 0) (s.getD 1 0)) 4294967296) fun b =>
 frc (Nat.mod (Nat.add (v.getD 2 0) (s.getD 2 0)) 4294967296) fun c=>frc (Nat.mod (Nat.add (v.getD 3 0) (s.getD 3 0)) 4294967296) fun d =>
 frc (Nat.mod (Nat.add (v.getD 4 0) (s.getD 4 0)) 4294967296) fun e=>frc (Nat.mod (Nat.add (v.getD 5 0) (s.getD 5 0)) 4294967296) fun f =>
 frc (Nat.mod (Nat.add (v.getD 6 0) (s.getD 6 0)) 4294967296) fun g=>frc (Nat.mod (Nat.add (v.getD 7 0) (s.getD 7 0)) 4294967296) fun h=>[a,b,c,d,e,f,g,h]
def takeN (s b : List Nat) : List Nat:=addN (rndN kN (extN 48 (firN 16 b [])).reverse (s.getD 0 0) (s.getD 1 0) (s.getD 2 0) (s.getD 3 0) (s.getD 4 0) (s.getD 5 0) (s.getD 6 0) (s.getD 7 0)) s
def blocksN : Nat→List Nat→List Nat→List Nat
 | 0,s,_=>s
 | n+1,s,m=>blocksN n (takeN s m) (m.drop 64)
def q4 (x : Nat) : List Nat:=[Nat.mod (Nat.div x 16777216) 256,Nat.mod (Nat.div x 65536) 256,Nat.mod (Nat.div x 256) 256,Nat.mod x 256]
def outN (s : List Nat) : List Nat:=frc (s.getD 0 0) fun a=>frc (s.getD 1 0) fun b=>frc (s.getD 2 0) fun c=>frc (s.getD 3 0) fun d=>frc (s.getD 4 0) fun e=>frc (s.getD 5 0) fun f=>frc (s.getD 6 0) fun g=>frc (s.getD 7 0) fun h=>q4 a++(q4 b++(q4 c++(q4 d++(q4 e++(q4 f++(q4 g++q4 h))))))
def shN (m : List UInt8) : List Nat:=outN (blocksN ((padM m).length / 64) (s0.l.map Int.toNat) ((padM m).map UInt8.toNat))
def hmN (k m : List UInt8) : List Nat:=shN (padOf 92 (keyB k)++(shN (padOf 54 (keyB k)++m)).map UInt8.ofNat)
def W (x : Int) (n : Nat) : Prop:=x=n∧n < 4294967296
theorem W.zero : W 0 0:=⟨rfl,by omega⟩
theorem wrap_n (n : Nat) : IntKind.wrap .u32 (n : Int)=((n % 4294967296 : Nat) : Int):=by simp [IntKind.wrap,IntKind.bits,IntKind.signed]
theorem W.wrap (n : Nat) : W (IntKind.wrap .u32 (n : Int)) (n % 4294967296):=⟨wrap_n n,Nat.mod_lt _ (by omega)⟩
theorem ofI {n : Nat} (h : n < 4294967296) : (BitVec.ofInt IntKind.u32.bits (n : Int)).toNat=n:=by
 rw [BitVec.ofInt_natCast,BitVec.toNat_ofNat]
 exact Nat.mod_eq_of_lt h
theorem W.of {x : Int} {n m : Nat} (hx : x=IntKind.wrap .u32 (n : Int)) (hn : n < 4294967296) (e : n=m) : W x m:=by
 subst e
 exact ⟨by rw [hx,wrap_n,Nat.mod_eq_of_lt hn],hn⟩
theorem W.xor {x y : Int} {m n : Nat} (hx : W x m) (hy : W y n) : W (iXor .u32 x y) (Nat.xor m n):=by
 obtain ⟨rfl,h1⟩:=hx
 obtain ⟨rfl,h2⟩:=hy
 refine W.of rfl (BitVec.isLt _) ?_
 rw [BitVec.toNat_xor,ofI h1,ofI h2]
 rfl
theorem W.and {x y : Int} {m n : Nat} (hx : W x m) (hy : W y n) : W (iAnd .u32 x y) (Nat.land m n):=by
 obtain ⟨rfl,h1⟩:=hx
 obtain ⟨rfl,h2⟩:=hy
 refine W.of rfl (BitVec.isLt _) ?_
 rw [BitVec.toNat_and,ofI h1,ofI h2]
 rfl
theorem W.or {x y : Int} {m n : Nat} (hx : W x m) (hy : W y n) : W (iOr .u32 x y) (Nat.lor m n):=by
 obtain ⟨rfl,h1⟩:=hx
 obtain ⟨rfl,h2⟩:=hy
 refine W.of rfl (BitVec.isLt _) ?_
 rw [BitVec.toNat_or,ofI h1,ofI h2]
 rfl
theorem W.not {x : Int} {m : Nat} (hx : W x m) : W (iNot .u32 x) (Nat.sub 4294967295 m):=by
 obtain ⟨rfl,h1⟩:=hx
 have e : (BitVec.ofInt 32 4294967295 ^^^ BitVec.ofInt 32 (m : Int))= ~~~ (BitVec.ofNat 32 m):=by
  have : BitVec.ofInt 32 4294967295=BitVec.allOnes 32:=by decide
  rw [this,BitVec.ofInt_natCast]
  exact BitVec.allOnes_xor
 have e2 : iNot .u32 (m : Int)=IntKind.wrap .u32 ((BitVec.ofInt 32 4294967295 ^^^ BitVec.ofInt 32 (m : Int)).toNat : Nat):=rfl
 rw [e2,e,BitVec.toNat_not,BitVec.toNat_ofNat,Nat.mod_eq_of_lt h1]
 exact W.of rfl (by omega) rfl
theorem W.shr {x : Int} {m : Nat} (hx : W x m) {n : Nat} (hn : n≤32) : W (iShr .u32 x (n : Int)) (Nat.div m (Nat.pow 2 n)):=by
 obtain ⟨rfl,h1⟩:=hx
 have e2 : min (n : Int).toNat IntKind.u32.bits=n:=by simp [IntKind.bits]; omega
 refine ⟨?_,Nat.lt_of_le_of_lt (Nat.div_le_self _ _) h1⟩
 unfold iShr
 rw [e2,Int.fdiv_eq_ediv_of_nonneg _ (by exact_mod_cast Nat.zero_le _)]
 show (m : Int) / 2 ^ n=((m / 2 ^ n : Nat) : Int)
 norm_cast
theorem W.shl {x : Int} {m : Nat} (hx : W x m) {n : Nat} (hn : n≤32) : W (iShl .u32 x (n : Int)) (Nat.mod (Nat.mul m (Nat.pow 2 n)) 4294967296):=by
 obtain ⟨rfl,h1⟩:=hx
 have e2 : min (n : Int).toNat IntKind.u32.bits=n:=by simp [IntKind.bits]; omega
 unfold iShl
 rw [e2]
 have e3 : (m : Int) * 2 ^ n=((m * 2 ^ n : Nat) : Int):=by norm_cast
 rw [e3]
 exact W.wrap _
theorem W.rr {x : Int} {m : Nat} (hx : W x m) {n : Nat} (hn : n≤32) : W (rr x n) (rN m n):=(hx.shl (n:=32 - n) (by omega)).or (hx.shr hn)
def M (x : Int) (n : Nat) : Prop:=IntKind.wrap .u32 x=((n % 4294967296 : Nat) : Int)
theorem W.m {x : Int} {n : Nat} (h : W x n) : M x n:=by
 obtain ⟨rfl,_⟩:=h
 exact wrap_n n
theorem wrap_emod (x : Int) : IntKind.wrap .u32 x=x % 4294967296:=by simp [IntKind.wrap,IntKind.bits,IntKind.signed]
theorem M.add {x y : Int} {m n : Nat} (hx : M x m) (hy : M y n) : M (iAdd .u32 x y) (Nat.add m n):=by
 unfold M at *
 unfold iAdd
 rw [wrap_emod] at *
 show _=(((m+n) % 4294967296 : Nat) : Int)
 rw [wrap_emod,Int.emod_emod]
 omega
theorem M.w {x y : Int} {n : Nat} (h : M (iAdd .u32 x y) n) : W (iAdd .u32 x y) (Nat.mod n 4294967296):=by
 refine ⟨?_,Nat.mod_lt _ (by omega)⟩
 unfold M iAdd at h
 unfold iAdd
 rw [wrap_emod,wrap_emod,Int.emod_emod] at h
 rw [wrap_emod]
 exact h
theorem W.g0 {x : Int} {m : Nat} (h : W x m) : W (sig0 x) (g0N m):=((h.rr (by omega)).xor (h.rr (by omega))).xor (h.shr (n:=3) (by omega))
theorem W.g1 {x : Int} {m : Nat} (h : W x m) : W (sig1 x) (g1N m):=((h.rr (by omega)).xor (h.rr (by omega))).xor (h.shr (n:=10) (by omega))
theorem extN_succ : ∀ (n : Nat) (l : List Nat),extN (n+1) l=wN (extN n l)::extN n l
 | 0,l=>by unfold extN; rw [frc_eq]; rfl
 | n+1,l=>by
   conv=>lhs; unfold extN
   rw [frc_eq,extN_succ n]
   conv=>rhs; unfold extN
   rw [frc_eq]
theorem getD_z (l : List Nat) (j : Nat) (h : l.length≤j) : l.getD j 0=0:=by
 rw [List.getD_eq_getElem?_getD,List.getElem?_eq_none h]
 rfl
theorem fir_eq (b : Arr 64) (bn : List Nat) (hb : ∀ j,b.at j=(bn.getD j 0 : Nat)) (hb2 : ∀ j,bn.getD j 0 < 256) : ∀ (n t : Nat) (l : List Nat),t+n=16→l.length=t→(∀ j,j < t→W ((iter (firstW b) 0 t (Arr.zero 64)).at j) (l.getD (t - 1 - j) 0))→(firN n (bn.drop (4 * t)) l).length=16∧∀ j,j < 16→W ((iter (firstW b) 0 16 (Arr.zero 64)).at j) ((firN n (bn.drop (4 * t)) l).getD (15 - j) 0)
 | 0,t,l,ht,hl,h=>by
   have : t=16:=by omega
   subst this
   exact ⟨hl,fun j hj=>h j hj⟩
 | n+1,t,l,ht,hl,h=>by
   have hB : Bytes b:=fun j=>⟨bn.getD j 0,hb2 j,hb j⟩
   unfold firN
   rw [frc_eq,List.drop_drop,show 4 * t+4=4 * (t+1) by omega]
   refine fir_eq b bn hb hb2 n (t+1) _ (by omega) (by simp [hl]) fun j hj=>?_
   show W ((firstW b (0+t) (iter (firstW b) 0 t (Arr.zero 64))).at j) _
   rw [Nat.zero_add,firstW_eq b _ hB (by omega) ((first_list b hB t (by omega)).2 t (Nat.le_refl _))]
   by_cases e : j=t
   ·subst e
    rw [Arr.at_set _ (by omega),show j+1 - 1 - j=0 by omega]
    have gd : ∀ i,(bn.drop (4 * j)).getD i 0=bn.getD (4 * j+i) 0:=fun i=>by
     rw [List.getD_eq_getElem?_getD,List.getD_eq_getElem?_getD,List.getElem?_drop]
    rw [gd,gd,gd,gd]
    have k0:=hb2 (4 * j)
    have k1:=hb2 (4 * j+1)
    have k2:=hb2 (4 * j+2)
    have k3:=hb2 (4 * j+3)
    have f0 : b.l.getD (4 * j) 0=(bn.getD (4 * j) 0 : Nat):=hb _
    have f1 : b.l.getD (4 * j+1) 0=(bn.getD (4 * j+1) 0 : Nat):=hb _
    have f2 : b.l.getD (4 * j+2) 0=(bn.getD (4 * j+2) 0 : Nat):=hb _
    have f3 : b.l.getD (4 * j+3) 0=(bn.getD (4 * j+3) 0 : Nat):=hb _
    unfold wordR
    rw [f0,f1,f2,f3,Nat.add_zero]
    generalize bn.getD (4 * j) 0=c0 at *
    generalize bn.getD (4 * j+1) 0=c1 at *
    generalize bn.getD (4 * j+2) 0=c2 at *
    generalize bn.getD (4 * j+3) 0=c3 at *
    refine ⟨?_,?_⟩
    ·show _=(((((c0 * 256+c1) * 256+c2) * 256+c3 : Nat)) : Int)
     simp [iAdd,iMul,IntKind.wrap,IntKind.bits,IntKind.signed]
     omega
    ·show ((c0 * 256+c1) * 256+c2) * 256+c3 < _
     omega
   ·rw [Arr.at_set_ne _ (by omega),show t+1 - 1 - j=(t - 1 - j)+1 by omega]
    exact h j (by omega)
theorem next_w {a b c d : Int} {l : List Nat} (h1 : W a (l.getD 1 0)) (h6 : W b (l.getD 6 0)) (h14 : W c (l.getD 14 0)) (h15 : W d (l.getD 15 0)) : W (iAdd .u32 (iAdd .u32 (iAdd .u32 (sig1 a) b) (sig0 c)) d) (wN l):=by
 unfold wN
 exact (((h1.g1.m.add h6.m).add h14.g0.m).add h15.m).w
theorem ext_one (u : Arr 64) (m : List Nat) (n : Nat) (hn : n < 48) (i2 : ∀ j,j < 16+n→W (u.at j) (m.getD (16+n - 1 - j) 0)) (j : Nat) (hj : j < 16+(n+1)) : W ((stepW (16+n) u).at j) ((wN m::m).getD (16+n - j) 0):=by
 have g : ∀ c d,d+1=c→c≤16→W (u.at (16+n - c)) (m.getD d 0):=fun c d h1 h2=>by
  have:=i2 (16+n - c) (by omega)
  rwa [show 16+n - 1 - (16+n - c)=d by omega] at this
 unfold stepW
 by_cases e : j=16+n
 ·rw [e,Arr.at_set _ (by omega),Nat.sub_self,List.getD_cons_zero]
  exact next_w (g 2 1 rfl (by omega)) (g 7 6 rfl (by omega)) (g 15 14 rfl (by omega)) (g 16 15 rfl (by omega))
 ·have h2:=i2 j (by omega)
  rw [Arr.at_set_ne _ (fun h=>e h.symm),show 16+n - j=(16+n - 1 - j)+1 by omega,List.getD_cons_succ]
  exact h2
theorem ext_eq (w : Arr 64) (l : List Nat) (hl : l.length=16) (h : ∀ j,j < 16→W (w.at j) (l.getD (15 - j) 0)) : ∀ n,n≤48→(extN n l).length=16+n∧∀ j,j < 16+n→W ((iter stepW 16 n w).at j) ((extN n l).getD (16+n - 1 - j) 0)
 | 0,_=>⟨hl,h⟩
 | n+1,hn=>by
   obtain ⟨i1,i2⟩:=ext_eq w l hl h n (by omega)
   rw [extN_succ]
   refine ⟨by simp [i1]; omega,fun j hj=>?_⟩
   show W ((stepW (16+n) (iter stepW 16 n w)).at j) ((wN (extN n l)::extN n l).getD (16+n - j) 0)
   generalize iter stepW 16 n w=u at i2 ⊢
   generalize extN n l=m at i1 i2 ⊢
   exact ext_one u m n (by omega) i2 j hj
theorem iter_cons {α : Type} (f : Nat→α→α) (lo : Nat) : ∀ (n : Nat) (a : α),iter f lo (n+1) a=iter f (lo+1) n (f lo a)
 | 0,a=>rfl
 | n+1,a=>by
   show f (lo+(n+1)) (iter f lo (n+1) a)=f (lo+1+n) (iter f (lo+1) n (f lo a))
   rw [iter_cons f lo n a,show lo+(n+1)=lo+1+n by omega]
def W8 (v : Arr 8) (l : List Nat) : Prop:=∀ i,W (v.at i) (l.getD i 0)
theorem at_ge {n : Nat} (v : Arr n) {i : Nat} (h : n≤i) : v.at i=0:=by
 unfold Arr.at
 rw [List.getD_eq_getElem?_getD,List.getElem?_eq_none (by rw [v.h]; exact h)]
 rfl
theorem W8.mk {v : Arr 8} {a b c d e f g h : Nat} (h0 : W (v.at 0) a) (h1 : W (v.at 1) b) (h2 : W (v.at 2) c) (h3 : W (v.at 3) d) (h4 : W (v.at 4) e) (h5 : W (v.at 5) f) (h6 : W (v.at 6) g) (h7 : W (v.at 7) h) : W8 v [a,b,c,d,e,f,g,h]:=fun i=>by
 match i with
 | 0=>exact h0
 | 1=>exact h1
 | 2=>exact h2
 | 3=>exact h3
 | 4=>exact h4
 | 5=>exact h5
 | 6=>exact h6
 | 7=>exact h7
 | i+8 =>
   rw [at_ge v (by omega)]
   exact W.zero
theorem rnd_eq (w : Arr 64) : ∀ (ks ws : List Nat) (t : Nat) (v : Arr 8) (a b c d e f g h : Nat),W8 v [a,b,c,d,e,f,g,h]→(∀ i,W (gv0.at (t+i)) (ks.getD i 0))→(∀ i,W (w.at (t+i)) (ws.getD i 0))→W8 (iter (stepV w) t ks.length v) (rndN ks ws a b c d e f g h)
 | [],ws,t,v,a,b,c,d,e,f,g,h,hv,_,_=>hv
 | k::ks,ws,t,v,a,b,c,d,e,f,g,h,hv,hk,hw=>by
   rw [List.length_cons,iter_cons]
   unfold rndN
   rw [frc_eq,frc_eq,frc_eq]
   have v0:=hv 0
   have v1:=hv 1
   have v2:=hv 2
   have v3:=hv 3
   have v4:=hv 4
   have v5:=hv 5
   have v6:=hv 6
   have v7:=hv 7
   have k0:=hk 0
   have w0:=hw 0
   have e1:=(((v4.rr (n:=6) (by omega)).xor (v4.rr (n:=11) (by omega))).xor (v4.rr (n:=25) (by omega)))
   have ch:=(v4.and v5).xor (v4.not.and v6)
   have t1:=(((v7.m.add e1.m).add ch.m).add k0.m).add w0.m
   have e0:=(((v0.rr (n:=2) (by omega)).xor (v0.rr (n:=13) (by omega))).xor (v0.rr (n:=22) (by omega)))
   have mj:=((v0.and v1).xor (v0.and v2)).xor (v1.and v2)
   have na:=(t1.add (e0.m.add mj.m)).w
   have ne:=(v3.m.add t1).w
   refine rnd_eq w ks (ws.drop 1) (t+1) _ _ _ _ _ _ _ _ _ (W8.mk na v0 v1 v2 ne v4 v5 v6) (fun i=>?_) (fun i=>?_)
   ·have:=hk (i+1)
    rwa [show t+(i+1)=t+1+i by omega] at this
   ·have:=hw (i+1)
    rw [show t+(i+1)=t+1+i by omega] at this
    rw [List.getD_eq_getElem?_getD,List.getElem?_drop,← List.getD_eq_getElem?_getD,Nat.add_comm 1 i]
    exact this
theorem addV_at (s v : Arr 8) : ∀ n,n≤8→∀ i,i < 8→(iter (addV s) 0 n v).at i=if i < n then iAdd .u32 (v.at i) (s.at i) else v.at i
 | 0,_,i,_=>by rw [if_neg (by omega)]; rfl
 | n+1,hn,i,hi=>by
   show (addV s (0+n) (iter (addV s) 0 n v)).at i=_
   rw [Nat.zero_add]
   have ih:=addV_at s v n (by omega)
   generalize iter (addV s) 0 n v=u at ih ⊢
   unfold addV
   by_cases e : i=n
   ·subst e
    rw [Arr.at_set _ (by omega),ih i hi,if_neg (by omega),if_pos (by omega)]
   ·rw [Arr.at_set_ne _ (by omega),ih i hi]
    by_cases h : i < n
    ·rw [if_pos h,if_pos (by omega)]
    ·rw [if_neg h,if_neg (by omega)]
theorem add_w8 {s v : Arr 8} {sl vl : List Nat} (hs : W8 s sl) (hv : W8 v vl) : W8 (iter (addV s) 0 8 v) (addN vl sl):=by
 unfold addN
 simp only [frc_eq]
 have g : ∀ i,i < 8→W ((iter (addV s) 0 8 v).at i) (Nat.mod (Nat.add (vl.getD i 0) (sl.getD i 0)) 4294967296):=fun i hi=>by
  rw [addV_at s v 8 (by omega) i hi,if_pos hi]
  exact ((hv i).m.add (hs i).m).w
 exact W8.mk (g 0 (by omega)) (g 1 (by omega)) (g 2 (by omega)) (g 3 (by omega)) (g 4 (by omega)) (g 5 (by omega)) (g 6 (by omega)) (g 7 (by omega))
theorem k_w (i : Nat) : W (gv0.at i) (kN.getD i 0):=by
 by_cases h : i < 64
 ·have : ∀ i : Fin 64,gv0.at i.1=(kN.getD i.1 0 : Nat)∧kN.getD i.1 0 < 4294967296:=by decide +kernel
  exact this ⟨i,h⟩
 ·rw [at_ge _ (by omega),getD_z _ _ (by show (gv0.l.map Int.toNat).length≤i; rw [List.length_map,gv0.h]; omega)]
  exact W.zero
theorem take_w8 {s : Arr 8} {sl : List Nat} (hs : W8 s sl) {b : Arr 64} {bn : List Nat} (hb : ∀ j,j < 64→b.at j=(bn.getD j 0 : Nat)) (hb2 : ∀ j,bn.getD j 0 < 256) : W8 (takeA s b) (takeN sl bn):=by
 obtain ⟨cn,hcn,hc1,hc2⟩ : ∃ cn : List Nat,(∀ n t,t+n=16→∀ l,firN n (bn.drop (4 * t)) l=firN n (cn.drop (4 * t)) l)∧(∀ j,b.at j=(cn.getD j 0 : Nat))∧∀ j,cn.getD j 0 < 256:=by
  have gt : ∀ j,(bn.take 64).getD j 0=if j < 64 then bn.getD j 0 else 0:=fun j=>by
   rw [List.getD_eq_getElem?_getD,List.getElem?_take]
   split
   ·rw [List.getD_eq_getElem?_getD]
   ·rfl
  refine ⟨bn.take 64,?_,fun j=>?_,fun j=>?_⟩
  ·intro n
   induction n with
   | zero=>intro t ht l; rfl
   | succ n ih =>
     intro t ht l
     have gd : ∀ i,i < 4→(bn.drop (4 * t)).getD i 0=((bn.take 64).drop (4 * t)).getD i 0:=fun i hi=>by
      have e:=gt (4 * t+i)
      rw [if_pos (by omega)] at e
      rw [List.getD_eq_getElem?_getD,List.getElem?_drop,← List.getD_eq_getElem?_getD,List.getD_eq_getElem?_getD (l:=(bn.take 64).drop (4 * t)),List.getElem?_drop,← List.getD_eq_getElem?_getD,e]
     unfold firN
     rw [frc_eq,frc_eq,List.drop_drop,List.drop_drop,show 4 * t+4=4 * (t+1) by omega,ih (t+1) (by omega),gd 0 (by omega),gd 1 (by omega),gd 2 (by omega),gd 3 (by omega)]
  ·rw [gt]
   split
   ·rename_i h; exact hb j h
   ·exact at_ge b (by omega)
  ·rw [gt]
   split
   ·exact hb2 j
   ·omega
 have hf:=fir_eq b cn hc1 hc2 16 0 [] rfl rfl (fun j hj=>by omega)
 have hx:=ext_eq _ _ hf.1 hf.2 48 (Nat.le_refl _)
 unfold takeN
 have e0:=hcn 16 0 rfl []
 rw [Nat.mul_zero,List.drop_zero,List.drop_zero] at e0
 rw [Nat.mul_zero,List.drop_zero] at hx
 rw [e0]
 refine add_w8 hs ?_
 have hk64 : kN.length=64:=by unfold kN; rw [List.length_map,gv0.h]
 have:=rnd_eq (wordsA b) kN (extN 48 (firN 16 cn [])).reverse 0 s _ _ _ _ _ _ _ _ (W8.mk (hs 0) (hs 1) (hs 2) (hs 3) (hs 4) (hs 5) (hs 6) (hs 7)) (fun i=>by rw [Nat.zero_add]; exact k_w i) (fun i=>by
  rw [Nat.zero_add]
  by_cases h : i < 64
  ·have:=hx.2 i (by omega)
   rw [List.getD_eq_getElem?_getD,List.getElem?_reverse (by rw [hx.1]; omega),hx.1,← List.getD_eq_getElem?_getD]
   exact this
  ·rw [at_ge _ (by omega),getD_z _ _ (by rw [List.length_reverse,hx.1]; omega)]
   exact W.zero)
 rw [hk64] at this
 exact this
theorem map_toNat_getD (m : List UInt8) (j : Nat) : (m.map UInt8.toNat).getD j 0 < 256:=by
 rw [List.getD_eq_getElem?_getD,List.getElem?_map]
 cases m[j]? with
 | none=>show 0 < 256; omega
 | some b=>exact b.toNat_lt
theorem toA64_at {m : List UInt8} (h : 64≤m.length) {j : Nat} (hj : j < 64) : (toA64 (m.take 64)).at j=((m.map UInt8.toNat).getD j 0 : Nat):=by
 unfold Arr.at
 rw [toA64_l (by rw [List.length_take]; omega)]
 unfold intsS
 rw [List.getD_eq_getElem?_getD,List.getD_eq_getElem?_getD,List.getElem?_map,List.getElem?_map,List.getElem?_take,if_pos hj,List.getElem?_eq_getElem (by omega)]
 rfl
theorem blocks_w8 : ∀ (n : Nat) (s : Arr 8) (sl : List Nat) (m : List UInt8),64 * n≤m.length→W8 s sl→W8 (blocks n s m) (blocksN n sl (m.map UInt8.toNat))
 | 0,s,sl,m,_,h=>h
 | n+1,s,sl,m,hm,h=>by
   unfold blocks blocksN
   rw [← List.map_drop]
   exact blocks_w8 n _ _ _ (by rw [List.length_drop]; omega) (take_w8 h (fun j hj=>toA64_at (by omega) hj) (map_toNat_getD m))
theorem s0_w8 : W8 s0 (s0.l.map Int.toNat):=W8.mk ⟨rfl,by decide⟩ ⟨rfl,by decide⟩ ⟨rfl,by decide⟩ ⟨rfl,by decide⟩ ⟨rfl,by decide⟩ ⟨rfl,by decide⟩ ⟨rfl,by decide⟩ ⟨rfl,by decide⟩
theorem byteO_w {x : Int} {n : Nat} (h : W x n) {j : Nat} (hj : j < 4) : byteO x j=((Nat.mod (Nat.div n (Nat.pow 2 (24 - 8 * j))) 256 : Nat) : Int):=by
 unfold byteO
 rw [(h.shr (n:=24 - 8 * j) (by omega)).1]
 generalize Nat.div n (Nat.pow 2 (24 - 8 * j))=q
 show _=((q % 256 : Nat) : Int)
 simp [IntKind.wrap,IntKind.bits,IntKind.signed]
theorem out4_at (s : Arr 8) (i : Nat) (hi : i < 8) (a : Arr 32) : ∀ n,n≤4→∀ j,j < 32→(iter (fun j (a : Arr 32)=>a.set (4 * i+j) (byteO (s.at i) j)) 0 n a).at j=if 4 * i≤j∧j < 4 * i+n then byteO (s.at i) (j - 4 * i) else a.at j
 | 0,_,j,hj=>by rw [if_neg (by omega)]; rfl
 | n+1,hn,j,hj=>by
   have ih:=out4_at s i hi a n (by omega)
   show (Arr.set (iter (fun j (a : Arr 32)=>a.set (4 * i+j) (byteO (s.at i) j)) 0 n a) (4 * i+(0+n)) (byteO (s.at i) (0+n))).at j=_
   generalize iter (fun j (a : Arr 32)=>a.set (4 * i+j) (byteO (s.at i) j)) 0 n a=u at ih ⊢
   rw [Nat.zero_add]
   by_cases e : j=4 * i+n
   ·subst e
    rw [Arr.at_set _ (by omega),if_pos (by omega),show 4 * i+n - 4 * i=n by omega]
   ·rw [Arr.at_set_ne _ (by omega),ih j hj]
    by_cases h : 4 * i≤j∧j < 4 * i+n
    ·rw [if_pos h,if_pos (by omega)]
    ·rw [if_neg h,if_neg (by omega)]
theorem outA_at (s : Arr 8) : ∀ n,n≤8→∀ j,j < 32→(iter (out4 s) 0 n (Arr.zero 32)).at j=if j < 4 * n then byteO (s.at (j / 4)) (j % 4) else 0
 | 0,_,j,hj=>by
   rw [if_neg (by omega)]
   show (Arr.zero 32).at j=0
   unfold Arr.at Arr.zero
   rw [List.getD_eq_getElem?_getD,List.getElem?_replicate]
   split<;>rfl
 | n+1,hn,j,hj=>by
   have ih:=outA_at s n (by omega) j hj
   show (out4 s (0+n) (iter (out4 s) 0 n (Arr.zero 32))).at j=_
   generalize iter (out4 s) 0 n (Arr.zero 32)=u at ih ⊢
   rw [Nat.zero_add]
   unfold out4
   rw [out4_at s n (by omega) u 4 (by omega) j hj]
   by_cases h : 4 * n≤j∧j < 4 * n+4
   ·rw [if_pos h,if_pos (by omega),show j / 4=n by omega,show j % 4=j - 4 * n by omega]
   ·rw [if_neg h,ih]
    by_cases h2 : j < 4 * n
    ·rw [if_pos h2,if_pos (by omega)]
    ·rw [if_neg h2,if_neg (by omega)]
theorem q4_at (x k : Nat) (hk : k < 4) : (q4 x).getD k 0=Nat.mod (Nat.div x (Nat.pow 2 (24 - 8 * k))) 256:=by
 match k,hk with
 | 0,_=>rfl
 | 1,_=>rfl
 | 2,_=>rfl
 | 3,_=>exact congrArg (fun y=>Nat.mod y 256) (Nat.div_one x).symm
theorem q4_app (x : Nat) (l : List Nat) (j : Nat) : (q4 x++l).getD j 0=if j < 4 then (q4 x).getD j 0 else l.getD (j - 4) 0:=by
 by_cases h : j < 4
 ·rw [if_pos h,List.getD_eq_getElem?_getD,List.getElem?_append_left h,List.getD_eq_getElem?_getD]
 ·rw [if_neg h,List.getD_eq_getElem?_getD,List.getElem?_append_right (by show 4≤j; omega),List.getD_eq_getElem?_getD]
  rfl
theorem outN_len (sl : List Nat) : (outN sl).length=32:=by unfold outN; simp only [frc_eq]; rfl
theorem outN_at (sl : List Nat) (j : Nat) (hj : j < 32) : (outN sl).getD j 0=Nat.mod (Nat.div (sl.getD (j / 4) 0) (Nat.pow 2 (24 - 8 * (j % 4)))) 256:=by
 have key : ∀ (n i : Nat) (l : List Nat) (F : Nat→List Nat),(∀ i,i < n→F i=q4 (sl.getD i 0)++F (i+1))→i≤n→∀ j,4 * i≤j→j < 4 * n→(F i).getD (j - 4 * i) 0=Nat.mod (Nat.div (sl.getD (j / 4) 0) (Nat.pow 2 (24 - 8 * (j % 4)))) 256:=by
  intro n i l F hF hi
  obtain ⟨k,hk⟩ : ∃ k,n - i=k:=⟨_,rfl⟩
  induction k generalizing i with
  | zero=>intro j h1 h2; omega
  | succ k ih =>
    intro j h1 h2
    rw [hF i (by omega),q4_app]
    by_cases h : j - 4 * i < 4
    ·rw [if_pos h,q4_at _ _ h,show j / 4=i by omega,show j % 4=j - 4 * i by omega]
    ·rw [if_neg h,show j - 4 * i - 4=j - 4 * (i+1) by omega]
     exact ih (i+1) (by omega) (by omega) j (by omega) h2
 have hO : outN sl=q4 (sl.getD 0 0)++(q4 (sl.getD 1 0)++(q4 (sl.getD 2 0)++(q4 (sl.getD 3 0)++(q4 (sl.getD 4 0)++(q4 (sl.getD 5 0)++(q4 (sl.getD 6 0)++(q4 (sl.getD 7 0)++[]))))))):=by
  unfold outN
  simp only [frc_eq,List.append_nil]
 let F : Nat→List Nat:=fun i=>match i with
  | 0=>q4 (sl.getD 0 0)++(q4 (sl.getD 1 0)++(q4 (sl.getD 2 0)++(q4 (sl.getD 3 0)++(q4 (sl.getD 4 0)++(q4 (sl.getD 5 0)++(q4 (sl.getD 6 0)++(q4 (sl.getD 7 0)++[])))))))
  | 1=>q4 (sl.getD 1 0)++(q4 (sl.getD 2 0)++(q4 (sl.getD 3 0)++(q4 (sl.getD 4 0)++(q4 (sl.getD 5 0)++(q4 (sl.getD 6 0)++(q4 (sl.getD 7 0)++[]))))))
  | 2=>q4 (sl.getD 2 0)++(q4 (sl.getD 3 0)++(q4 (sl.getD 4 0)++(q4 (sl.getD 5 0)++(q4 (sl.getD 6 0)++(q4 (sl.getD 7 0)++[])))))
  | 3=>q4 (sl.getD 3 0)++(q4 (sl.getD 4 0)++(q4 (sl.getD 5 0)++(q4 (sl.getD 6 0)++(q4 (sl.getD 7 0)++[]))))
  | 4=>q4 (sl.getD 4 0)++(q4 (sl.getD 5 0)++(q4 (sl.getD 6 0)++(q4 (sl.getD 7 0)++[])))
  | 5=>q4 (sl.getD 5 0)++(q4 (sl.getD 6 0)++(q4 (sl.getD 7 0)++[]))
  | 6=>q4 (sl.getD 6 0)++(q4 (sl.getD 7 0)++[])
  | 7=>q4 (sl.getD 7 0)++[]
  | _=>[]
 have hF : ∀ i,i < 8→F i=q4 (sl.getD i 0)++F (i+1):=fun i hi=>by
  match i,hi with
  | 0,_=>rfl
  | 1,_=>rfl
  | 2,_=>rfl
  | 3,_=>rfl
  | 4,_=>rfl
  | 5,_=>rfl
  | 6,_=>rfl
  | 7,_=>rfl
 have:=key 8 0 [] F hF (by omega) j (by omega) (by omega)
 rw [hO]
 exact this
theorem out_w8 {s : Arr 8} {sl : List Nat} (h : W8 s sl) : (outA s).l=(outN sl).map Int.ofNat:=by
 refine List.ext_getElem (by rw [(outA s).h,List.length_map,outN_len]) fun j h1 h2=>?_
 rw [(outA s).h] at h1
 have e1 : (outA s).l[j]'(by rw [(outA s).h]; exact h1)=(outA s).at j:=by
  unfold Arr.at
  rw [List.getD_eq_getElem?_getD,List.getElem?_eq_getElem (by rw [(outA s).h]; exact h1)]
  rfl
 have e2 : (outN sl)[j]'(by rw [outN_len]; exact h1)=(outN sl).getD j 0:=by
  rw [List.getD_eq_getElem?_getD,List.getElem?_eq_getElem (by rw [outN_len]; exact h1)]
  rfl
 rw [List.getElem_map,e1,e2,outN_at sl j h1]
 have:=outA_at s 8 (by omega) j h1
 rw [if_pos (by omega)] at this
 unfold outA
 rw [this,byteO_w (h _) (by omega)]
 rfl
theorem padM_len (m : List UInt8) : 64 * ((padM m).length / 64)≤(padM m).length:=Nat.mul_div_le _ _
theorem sha_n (m : List UInt8) : (sha m).l=(shN m).map Int.ofNat:=by
 unfold sha shN
 exact out_w8 (blocks_w8 _ _ _ _ (padM_len m) s0_w8)
theorem byA_n (m : List UInt8) : byA (sha m)=(shN m).map UInt8.ofNat:=by
 unfold byA bytesS
 rw [sha_n,List.map_map]
 exact List.map_congr_left fun n _=>rfl
theorem hm_n (k m : List UInt8) : (hm k m).l=(hmN k m).map Int.ofNat:=by
 unfold hm hmN
 rw [sha_n,byA_n]
theorem hm_run {k m : List UInt8} {l : List Nat} (h : (hmN k m==l)=true) (a : Arr 32) (ha : a.l=l.map Int.ofNat) : hm k m=a:=by
 apply Arr.ext'
 rw [hm_n,eq_of_beq h,ha]
end Go.Proofs.YtnoongjjjpljjaaGreatDoor
