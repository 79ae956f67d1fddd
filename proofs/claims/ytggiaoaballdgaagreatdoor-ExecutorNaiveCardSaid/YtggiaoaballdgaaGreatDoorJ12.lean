/- A part of the proof: see the last text. -/
import Derived.Lib.Bytealg
import Derived.Test.YtggiaoaballdgaaGreatDoorJ11
import Derived.Test.YtggiaoaballdgaaGreatDoorJ9
import Derived.Test.YtggiaoaballdgaaGreatDoorJ8
import Derived.Test.YtggiaoaballdgaaGreatDoorJ4
set_option linter.unusedSimpArgs false
set_option linter.unusedVariables false
namespace Go.Eng
open Go Go.Proofs
structure Cas where
 s:Sl Tbl
 fr:Sl I64
 al:Sl Str
 w:ExR
def zFd (c:Cas):D:=.agg [sl 5 zQ c.s,sl 1 I c.fr,sl 1 S c.al,.int .i64 c.w.a.1,.str c.w.s,.str c.w.t,.int .i64 c.w.b.1,.int .i64 c.w.c.1,.int .i64 c.w.d.1,.str c.w.u,sl 8 zM c.w.args]
@[go_sem] theorem zCw (c:Cas):zFd c=.agg [sl 5 zQ c.s,sl 1 I c.fr,sl 1 S c.al,.int .i64 c.w.a.1,.str c.w.s,.str c.w.t,.int .i64 c.w.b.1,.int .i64 c.w.c.1,.int .i64 c.w.d.1,.str c.w.u,sl 8 zM c.w.args]:=rfl
@[go_sem] theorem xDm (m:Mem) (k:Nat) (l:List D):zY m k (wW k l)=some l:=by
 cases l with
 |nil=>rfl
 |cons a r=>simp[wW,zY]
def gT (i k:Nat) (l:List D):D:=match l with|[]=>.nil|_::_=>.slice (some (i+1)) k l
def gV (n:Nat) (l:List D):List Nat:=match n with|0=>[]|k+1=>[k+1,k+1]++(match l with|[]=>[]|_::_=>[l.length])
def gV1 (n:Nat) (l:List D):List Nat:=match n with|0=>[1]|k+1=>[k+2,k+1]++(match l with|[]=>[]|_::_=>[l.length])
def gV2 (n:Nat) (l:List D):List Nat:=[n+1,n+1]++(match l with|[]=>[]|_::_=>[l.length])
theorem yPh (m:Mem) (i k:Nat) (l:List D):zY m k (gT i k l)=some l:=by
 cases l<;>simp[gT,zY]
theorem yCi (i k:Nat) (l:List D):(gT i k l).okC=true:=by cases l<;>rfl
theorem zPp (i k:Nat) (l:List D):(gT i k l).cells=[gT i k l]:=by cases l<;>rfl
theorem zOy {g:Nat->Nat->Nat->Nat->D} (i k:Nat) {l:List D} (h:zC g l=l):zF g (gT i k l)=wW k l:=by
 cases l with
 |nil=>rfl
 |cons a r=>simp only[gT,yY,h,wW]
theorem xAl (n:Nat) (l a:List D) (x:D) (ha:a.length=n) (h0:n=0->l=[]):zZ 1 ⟨[],gV n l⟩ (gT 0 1 a) [x]=some (gT 0 1 (a++[x]),⟨[],gV1 n l⟩):=by
 cases a with
 |nil=>subst ha;simp[gT,gV,gV1,zZ]
 |cons y r=>subst ha;simp[gT,gV,gV1,zZ]
theorem xAk (n:Nat) (l a:List D) (x:D) (ha:a.length=n) (h0:n=0->l=[]):zZ 2 ⟨[],gV1 n l⟩ (gT 1 2 a) [x]=some (gT 1 2 (a++[x]),⟨[],gV2 n l⟩):=by
 cases a with
 |nil=>subst ha;simp[gT,gV1,gV2,zZ,h0]
 |cons y r=>subst ha;simp[gT,gV1,gV2,zZ]
theorem xAj (n:Nat) (l xs:List D):zZ 5 ⟨[],gV2 n l⟩ (gT 2 5 l) xs=some (gT 2 5 (l++xs),⟨[],gV (n+1) (l++xs)⟩):=by
 cases xs with
 |nil=>simp[zZ,gV,gV2]
 |cons x xs=>cases l<;>simp[gT,gV,gV2,zZ]
noncomputable def xSl (e:Ex):ExR:=e.open.choose
theorem yQf (e:Ex):zM e=(xSl e).enc:=e.open.choose_spec.1
end Go.Eng
namespace Go.Eng
open Go
inductive qR (m:Mem):D->List D->Prop
 |nil:qR m .nil []
 |box (id:Nat) (cs:List D) (h:m.boxes[id]?=some cs) (hn:cs≠[]) (ho:wB cs=false):qR m (.rsl id 0 cs.length 1) cs
def uU :D->List Nat
 |.rsl id _ _ _=>[id]
 |_=>[]
structure Fr (B B' T T':List Nat) (m m':Mem):Prop where
 len:m.boxes.length<=m'.boxes.length
 tlen:m.toks.length<=m'.toks.length
 keep:∀id,id<m.boxes.length->id∉B->m'.boxes[id]?=m.boxes[id]?
 tkeep:∀id,id<m.toks.length->id∉T->m'.toks[id]?=m.toks[id]?
 sub:∀id∈B',id∈B\/m.boxes.length<=id
 tsub:∀id∈T',id∈T\/m.toks.length<=id
theorem Fr.trans {B B1 B2 T T1 T2:List Nat} {m m1 m2:Mem} (h:Fr B B1 T T1 m m1) (k:Fr B1 B2 T1 T2 m1 m2):Fr B B2 T T2 m m2 where
 len:=Nat.le_trans h.len k.len
 tlen:=Nat.le_trans h.tlen k.tlen
 keep id h1 h2:=by
  rw[k.keep id (Nat.lt_of_lt_of_le h1 h.len) (λh3=>(h.sub id h3).elim h2 (λh4=>absurd h1 (by omega))),h.keep id h1 h2]
 tkeep id h1 h2:=by
  rw[k.tkeep id (Nat.lt_of_lt_of_le h1 h.tlen) (λh3=>(h.tsub id h3).elim h2 (λh4=>absurd h1 (by omega))),h.tkeep id h1 h2]
 sub id h1:=by
  rcases k.sub id h1 with h2|h2
  ·exact h.sub id h2
  ·exact .inr (Nat.le_trans h.len h2)
 tsub id h1:=by
  rcases k.tsub id h1 with h2|h2
  ·exact h.tsub id h2
  ·exact .inr (Nat.le_trans h.tlen h2)
theorem Fr.refl (B T:List Nat) (m:Mem):Fr B B T T m m:=⟨Nat.le_refl _,Nat.le_refl _,λ_ _ _=>rfl,λ_ _ _=>rfl,λ_ h=>.inl h,λ_ h=>.inl h⟩
theorem qR.keep {m m':Mem} {d:D} {cs:List D} (h:qR m d cs) (k:∀id∈uU d,m'.boxes[id]?=m.boxes[id]?):qR m' d cs:=by
 cases h with
 |nil=>exact .nil
 |box id cs h hn ho=>exact .box id cs (by rw[k id (by simp[uU])];exact h) hn ho
theorem qR.lt {m:Mem} {d:D} {cs:List D} (h:qR m d cs):∀id∈uU d,id<m.boxes.length:=by
 cases h with
 |nil=>intro id h;cases h
 |box id cs h hn ho=>intro x hx;simp[uU] at hx;subst hx;exact(List.getElem?_eq_some_iff.1 h).1
theorem qR.lenT {m:Mem} {d:D} {cs:List D} (h:qR m d cs) (P:Program) (u:Nat):lenT P u d=match zI P u with|some _=>some cs.length|none=>none:=by
 cases h with
 |nil=>exact zDl P u
 |box id cs h hn ho=>rfl
theorem qR.inv {m:Mem} {d:D} {cs:List D} (h:qR m d cs):(d=.nil/\cs=[])\/∃id,d=.rsl id 0 cs.length 1/\m.boxes[id]?=some cs/\cs≠[]/\wB cs=false:=by
 cases h with
 |nil=>exact .inl ⟨rfl,rfl⟩
 |box id cs h hn ho=>exact .inr ⟨id,rfl,h,hn,ho⟩
theorem zOn {α:Type} {f:α->D} (h:∀a,(f a).isO=false) (l:List α):wB (l.map f)=false:=by
 cases l with
 |nil=>rfl
 |cons a r=>
  cases r with
  |nil=>exact h a
  |cons b r=>rfl
structure TrL where
 t:Nat
 r:Nat
 kd:D
 vd:D
def TrL.ids (T:TrL):List Nat:=T.t::T.r::(uU T.kd++uU T.vd)
structure TrS (m:Mem) (T:TrL) (ks:List Str) (vs:List Int):Prop where
 ht:∃c:Int,m.boxes[T.t]?=some [.ptr T.r 0,.int .i64 16,.int .i64 c]
 hr:m.boxes[T.r]?=some [T.kd,T.vd,.nil]
 hk:qR m T.kd (ks.map D.str)
 hv:qR m T.vd (vs.map (D.int .i64))
 len:ks.length=vs.length
theorem TrS.keep {m m':Mem} {T:TrL} {ks:List Str} {vs:List Int} (h:TrS m T ks vs) (k:∀id∈T.ids,m'.boxes[id]?=m.boxes[id]?):TrS m' T ks vs where
 ht:=by obtain⟨c,hc⟩:=h.ht;exact⟨c,by rw[k _ (by simp[TrL.ids])];exact hc⟩
 hr:=by rw[k _ (by simp[TrL.ids])];exact h.hr
 hk:=h.hk.keep λid hi=>k id (by simp[TrL.ids,hi])
 hv:=h.hv.keep λid hi=>k id (by simp[TrL.ids,hi])
 len:=h.len
theorem TrS.lt {m:Mem} {T:TrL} {ks:List Str} {vs:List Int} (h:TrS m T ks vs):∀id∈T.ids,id<m.boxes.length:=by
 intro id hi
 simp only[TrL.ids,List.mem_cons,List.mem_append] at hi
 rcases hi with rfl|rfl|hi|hi
 ·obtain⟨c,hc⟩:=h.ht;exact(List.getElem?_eq_some_iff.1 hc).1
 ·exact(List.getElem?_eq_some_iff.1 h.hr).1
 ·exact h.hk.lt id hi
 ·exact h.hv.lt id hi
structure Val where
 k:Int
 n:Int
 s:List UInt8
deriving DecidableEq
def nul :Val:=⟨0,0,[]⟩
instance :Inhabited Val:=⟨nul⟩
inductive Tm where
 |nd (op ix:Int) (v:Val) (aq:List Tm)
def Tm.op :Tm->Int|.nd a _ _ _=>a
def Tm.ix :Tm->Int|.nd _ a _ _=>a
def Tm.v :Tm->Val|.nd _ _ a _=>a
def Tm.as :Tm->List Tm|.nd _ _ _ a=>a
mutual
def tmD :D->Tm
 |.agg [.int _ a,.str _,.str _,.int _ b,.int _ c,.int _ d,.str u,.slice _ _ es]=>.nd a b ⟨c,d,u⟩ (tmL es)
 |.agg [.int _ a,.str _,.str _,.int _ b,.int _ c,.int _ d,.str u,_]=>.nd a b ⟨c,d,u⟩ []
 |_=>.nd 0 0 nul []
def tmL :List D->List Tm
 |[]=>[]
 |d::r=>tmD d::tmL r
end
theorem yDa :∀l:List D,tmL l=l.map tmD
 |[]=>by rw[tmL];rfl
 |d::r=>by rw[tmL,yDa r];rfl
abbrev wr (n:Int):Int:=IntKind.i64.wrap n
def uG (a b:Int):Int:=if a<b then -1 else if b<a then 1 else 0
abbrev zCg (a b:List UInt8):Int:=Lib.compareBytes a b
def yHa (x y:Val):Int:=if uG x.n y.n=0 then zCg x.s y.s else uG x.n y.n
def zTe (x y:Val):Int:=if uG x.k y.k=0 then yHa x y else uG x.k y.k
def flo (a b:Int):Int:=if a.tmod b<0 then wr (wr (a.tdiv b)-1) else wr (a.tdiv b)
def arith (op a b:Int):Int:=if op=4 then wr (a+b) else if op=5 then wr (a-b) else if op=6 then wr (a*b) else if op=7 then flo a b else wr (a-wr (b*flo a b))
def evV (r:List Val):Tm->Val
 |.nd op ix v []=>if op=2 then(atI r ix).getD nul else v
 |.nd op _ _ [a]=>if(evV r a).k=0 then nul else⟨1,if op=3 then wr (0-(evV r a).n) else(evV r a).s.length,[]⟩
 |.nd op _ _ [a,b]=>if(evV r a).k=0 then nul else if(evV r b).k=0 then nul else⟨1,arith op (evV r a).n (evV r b).n,[]⟩
 |_=>nul
def xJ (p t:List UInt8) (i:Nat):Nat->Bool
 |0=>i==0
 | j+1=>match p[j]? with
  |some c=>if c=37 then(List.range (i+1)).any λi'=>xJ p t i' j else(match i with
   |0=>false
   |i+1=>xJ p t i j&&(c==95||t[i]?==some c))
  |none=>false
def zZb (t p:List UInt8):Bool:=xJ p t t.length p.length
def yIe (op:Int) (o:Int):Bool:=if op=10 then o==0 else if op=11 then o != 0 else if op=12 then decide (o<0) else if op=13 then decide (o<=0) else if op=14 then decide (0<o) else decide (0<=o)
def ofB (b:Bool):Int:=if b then 1 else 0
def zYw (a b:Int):Int:=if a=0\/b=0 then 0 else if a=2\/b=2 then 2 else 1
def or3 (a b:Int):Int:=if a=1\/b=1 then 1 else if a=2\/b=2 then 2 else 0
def yHb (a:Int):Int:=if a=2 then 2 else 1-a
def yMk (op:Int) (x y:Val):Int:=if x.k=0\/y.k=0 then 2 else if op=16 then ofB (zZb x.s y.s) else ofB (yIe op (yHa x y))
def evC (r:List Val):Tm->Int
 |.nd _ _ _ []=>2
 |.nd op _ _ [a]=>if op=17 then ofB ((evV r a).k==0) else yHb (evC r a)
 |.nd op _ _ [a,b]=>if op=18 then zYw (evC r a) (evC r b) else if op=19 then or3 (evC r a) (evC r b) else yMk op (evV r a) (evV r b)
 |_=>2
inductive yHg (P:Int->Prop):Tm->Prop
 |nd (op ix:Int) (v:Val) (aq:List Tm) (h:op=2->P ix) (k:∀a∈aq,yHg P a):yHg P (.nd op ix v aq)
def zJo (s:List UInt8):Bool:=s.all λc=>decide (32<=c)&&decide (c<=126)
inductive OKV :Int->Val->Prop
 |nul (t:Int):OKV t nul
 |int (n:Int):OKV 1 ⟨1,n,[]⟩
 |txt (s:List UInt8) (h:zJo s=true) (hl:s.length<=16):OKV 2 ⟨2,0,s⟩
structure zIj (l:List Int) (r:List Val):Prop where
 len:r.length=l.length
 ok:∀(i:Nat) (v:Val) (t:Int),r[i]?=some v->l[i]?=some t->OKV t v
inductive WT (l:List Int):Tm->Int->Prop
 |nul (ix:Int):WT l (.nd 1 ix nul []) 0
 |int (ix n:Int):WT l (.nd 1 ix ⟨1,n,[]⟩ []) 1
 |txt (ix:Int) (s:List UInt8) (h:zJo s=true) (hl:s.length<=16):WT l (.nd 1 ix ⟨2,0,s⟩ []) 2
 |col (n:Nat) (v:Val) (t:Int) (h:l[n]?=some t) (ht:t=1\/t=2):WT l (.nd 2 (n:Int) v []) t
 |neg (ix:Int) (v:Val) (a:Tm) (t:Int) (ht:t=0\/t=1) (h:WT l a t):WT l (.nd 3 ix v [a]) 1
 |length (ix:Int) (v:Val) (a:Tm) (t:Int) (ht:t=0\/t=2) (h:WT l a t):WT l (.nd 9 ix v [a]) 1
 |isnull (ix:Int) (v:Val) (a:Tm) (t:Int) (ht:t=0\/t=1\/t=2) (h:WT l a t):WT l (.nd 17 ix v [a]) 3
 |not (ix:Int) (v:Val) (a:Tm) (t:Int) (ht:t=0\/t=3) (h:WT l a t):WT l (.nd 20 ix v [a]) 3
 | arith (op ix:Int) (v:Val) (a b:Tm) (t u:Int) (ho:4<=op/\op<=8) (ht:t=0\/t=1) (hu:u=0\/u=1) (h:WT l a t) (k:WT l b u)
   (hd:7<=op->∃n:Int,1<=n/\n<=1000/\∀r,evV r b=⟨1,n,[]⟩):WT l (.nd op ix v [a,b]) 1
 |rel (op ix:Int) (v:Val) (a b:Tm) (t u:Int) (ho:10<=op/\op<=15) (h:WT l a t) (k:WT l b u) (hk:∃z,(z=1\/z=2)/\(t=0\/t=z)/\(u=0\/u=z)):WT l (.nd op ix v [a,b]) 3
 |like (ix:Int) (v:Val) (a b:Tm) (t:Int) (ht:t=0\/t=2) (h:WT l a t) (k:WT l b 2) (hb:b.op=1):WT l (.nd 16 ix v [a,b]) 3
 |junct (op ix:Int) (v:Val) (a b:Tm) (t u:Int) (ho:op=18\/op=19) (ht:t=0\/t=3) (hu:u=0\/u=3) (h:WT l a t) (k:WT l b u):WT l (.nd op ix v [a,b]) 3
theorem OKV.of0 {z:Int} {x:Val} (h:OKV 0 x):OKV z x:=by cases h;exact .nul z
theorem OKV.of {t z:Int} {x:Val} (ht:t=0\/t=z) (h:OKV t x):OKV z x:=by
 rcases ht with rfl|rfl
 ·exact h.of0
 ·exact h
theorem WT.val {l:List Int} {e:Tm} {t:Int} (h:WT l e t) (ht:t≠3) {r:List Val} (hr:zIj l r):OKV t (evV r e):=by
 cases h with
 |nul ix=>simp only[evV];rw[if_neg (by decide)];exact .nul 0
 |int ix n=>simp only[evV];rw[if_neg (by decide)];exact .int n
 |txt ix s h hl=>simp only[evV];rw[if_neg (by decide)];exact .txt s h hl
 |col n v t h ht=>
  simp only[evV,if_pos]
  have hn:n<r.length:=by rw[hr.len];exact(List.getElem?_eq_some_iff.1 h).1
  have:atI r (n:Int)=some r[n]:=List.getElem?_eq_getElem hn
  rw[this]
  exact hr.ok n _ t (List.getElem?_eq_getElem hn) h
 |neg ix v a t ht h=>
  simp only[evV]
  split
  ·exact .nul 1
  ·exact .int _
 |length ix v a t ht h=>
  simp only[evV]
  split
  ·exact .nul 1
  ·exact .int _
 | arith op ix v a b t u ho ht hu h k hd=>
  simp only[evV]
  split
  ·exact .nul 1
  ·split
   ·exact .nul 1
   ·exact .int _
 |isnull=>exact absurd rfl ht
 |not=>exact absurd rfl ht
 |rel=>exact absurd rfl ht
 |like=>exact absurd rfl ht
 |junct=>exact absurd rfl ht
def Tri (n:Int):Prop:=n=0\/n=1\/n=2
theorem yCz (b:Bool):Tri (ofB b):=by cases b<;>simp[Tri,ofB]
theorem yPr {a b:Int}:Tri (zYw a b):=by unfold zYw Tri;grind
theorem yYn {a b:Int}:Tri (or3 a b):=by unfold or3 Tri;grind
theorem yPq {a:Int} (h:Tri a):Tri (yHb a):=by unfold yHb Tri at *;grind
theorem yPp (op:Int) (x y:Val):Tri (yMk op x y):=by
 unfold yMk
 split
 ·simp[Tri]
 ·split<;>exact yCz _
theorem zJz (r:List Val):∀e:Tm,Tri (evC r e)
 |.nd op ix v []=>by simp[evC,Tri]
 |.nd op ix v [a]=>by
  simp only[evC]
  split
  ·exact yCz _
  ·exact yPq (zJz r a)
 | .nd op ix v [a,b]=>by
  simp only[evC]
  split
  ·exact yPr
  ·split
   ·exact yYn
   ·exact yPp ..
 |.nd op ix v (a::b::c::d)=>by simp[evC,Tri]
theorem zJb {P:Int->Prop} {r r':List Val} (hP:∀i,P i->atI r i=atI r' i):∀e:Tm,yHg P e->evV r e=evV r' e
 | .nd op ix v [],h=>by
  cases h with
  |nd _ _ _ _ h k=>
   simp only[evV]
   split
   ·rename_i h2;rw[hP ix (h h2)]
   ·rfl
 |.nd op ix v [a],h=>by
  cases h with
  |nd _ _ _ _ h k=>simp only[evV];rw[zJb hP a (k a (by simp))]
 |.nd op ix v [a,b],h=>by
  cases h with
  |nd _ _ _ _ h k=>simp only[evV];rw[zJb hP a (k a (by simp)),zJb hP b (k b (by simp))]
 |.nd op ix v (a::b::c::d),h=>by simp only[evV]
theorem uC {a b:Int}:uG a b=0↔a=b:=by unfold uG;grind
theorem yGg (a b:Int):uG b a = -uG a b:=by unfold uG;grind
theorem yLj (a b:Int):uG a b = -1\/uG a b=0\/uG a b=1:=by unfold uG;grind
theorem zTh (a b:UInt8):a<b↔a.toNat<b.toNat:=Iff.rfl
theorem zEb {a b:UInt8} (h:a.toNat=b.toNat):a=b:=UInt8.toNat_inj.1 h
theorem zGf :∀{a b:List UInt8},zCg a b=0↔a=b
 |[],[]=>by simp[Lib.compareBytes]
 |[],_::_=>by simp[Lib.compareBytes]
 |_::_,[]=>by simp[Lib.compareBytes]
 | a::r,b::t=>by
  have ih:=@zGf r t
  unfold zCg at *
  rw[Lib.compareBytes]
  simp only[zTh]
  by_cases h1:a.toNat<b.toNat
  ·simp only[h1,if_pos]
   exact⟨λh=>by omega,λh=>by cases h;omega⟩
  ·by_cases h2:b.toNat<a.toNat
   ·simp only[h1,h2,if_pos,if_neg,not_false_eq_true]
    exact⟨λh=>by omega,λh=>by cases h;omega⟩
   ·simp only[h1,h2,if_neg,not_false_eq_true]
    rw[ih]
    exact⟨λh=>by rw[h,zEb (by omega:a.toNat=b.toNat)],λh=>by cases h;rfl⟩
theorem zSh :∀(a b:List UInt8),zCg b a = -zCg a b
 |[],[]=>by simp[Lib.compareBytes]
 |[],_::_=>by simp[Lib.compareBytes]
 |_::_,[]=>by simp[Lib.compareBytes]
 | a::r,b::t=>by
  have ih:=zSh r t
  unfold zCg at *
  rw[Lib.compareBytes,Lib.compareBytes,ih]
  simp only[zTh]
  by_cases h1:a.toNat<b.toNat
  ·simp only[h1,show ¬b.toNat<a.toNat by omega,if_pos,if_neg,not_false_eq_true];rfl
  ·by_cases h2:b.toNat<a.toNat
   ·simp only[h1,h2,if_pos,if_neg,not_false_eq_true]
   ·simp only[h1,h2,if_neg,not_false_eq_true]
theorem zPm :∀(a b:List UInt8),zCg a b = -1\/zCg a b=0\/zCg a b=1
 |[],[]=>by simp[Lib.compareBytes]
 |[],_::_=>by simp[Lib.compareBytes]
 |_::_,[]=>by simp[Lib.compareBytes]
 | a::r,b::t=>by
  have ih:=zPm r t
  unfold zCg at *
  rw[Lib.compareBytes]
  split
  ·simp
  ·split
   ·simp
   ·exact ih
theorem yEz {x y:Val}:yHa x y=0↔x.n=y.n/\x.s=y.s:=by
 unfold yHa
 by_cases h:uG x.n y.n=0
 ·rw[if_pos h,zGf];rw[uC] at h;exact⟨λe=>⟨h,e⟩,λe=>e.2⟩
 ·rw[if_neg h];exact⟨λe=>absurd e h,λe=>absurd (uC.2 e.1) h⟩
theorem zGe {x y:Val}:zTe x y=0↔x=y:=by
 unfold zTe
 by_cases h:uG x.k y.k=0
 ·rw[if_pos h,yEz]
  rw[uC] at h
  obtain⟨a,b,c⟩:=x;obtain⟨d,e,f⟩:=y
  simp at *;simp[h]
 ·rw[if_neg h];exact⟨λe=>absurd e h,λe=>absurd (uC.2 (by rw[e])) h⟩
section
variable {α:Type} (c:α->α->Int)
structure uK :Prop where
 swap:∀x y,c y x = -c x y
 trans:∀x y z,c x y<=0->c y z<=0->c x z<=0
abbrev Asc (l:List α):Prop:=l.Pairwise λx y=>c x y<=0
variable {c}
theorem uK.le_of_not_lt (h:uK c) {x y:α} (hn:¬c y x<0):c x y<=0:=by
 have:=h.swap x y;omega
theorem uK.refl (h:uK c) (x:α):c x x<=0:=by have:=h.swap x x;omega
theorem yAv {a b:List α} (ha:Asc c a) (hb:Asc c b) (h:∀x∈a,∀y∈b,c x y<=0):Asc c (a++b):=
 List.pairwise_append.2 ⟨ha,hb,h⟩
theorem zPs {a b:List α} (h:Asc c (a++b)):Asc c a:=(List.pairwise_append.1 h).1
theorem zLj {a b:List α} (h:Asc c (a++b)):Asc c b:=(List.pairwise_append.1 h).2.1
theorem zLk {a b:List α} (h:Asc c (a++b)):∀x∈a,∀y∈b,c x y<=0:=(List.pairwise_append.1 h).2.2
theorem yLv (hc:uK c) {a:List α} {z:α} (h:Asc c (a++[z])):∀x∈a++[z],c x z<=0:=by
 intro x hx
 rcases List.mem_append.1 hx with hx|hx
 ·exact zLk h x hx z (by simp)
 ·rw[List.mem_singleton.1 hx];exact hc.refl z
theorem zJc (hc:uK c) {a:List α} {z:α} (h:Asc c (z::a)):∀x∈z::a,c z x<=0:=by
 intro x hx
 rcases List.mem_cons.1 hx with rfl|hx
 ·exact hc.refl _
 ·exact(List.pairwise_cons.1 h).1 x hx
theorem zYd (hc:uK c) {a b:List α} (ha:Asc c a) (hb:Asc c b) (h:∀x y,a.getLast?=some x->b.head?=some y->c x y<=0):∀x∈a,∀y∈b,c x y<=0:=by
 intro x hx y hy
 cases b with
 |nil=>cases hy
 | cons z b=>
  rcases List.eq_nil_or_concat a with rfl|⟨a',w,rfl⟩
  ·cases hx
  ·rw[List.concat_eq_append] at *
   have h1:=yLv hc ha x hx
   have h2:=zJc hc hb y hy
   have h3:=h w z (by simp) (by simp)
   exact hc.trans _ _ _ (hc.trans _ _ _ h1 h3) h2
theorem yFd (hc:uK c) {A1 A2 B1 B2:List α} (hA:Asc c (A1++A2)) (hB:Asc c (B1++B2))
  (h1:∀x y,A1.getLast?=some x->B2.head?=some y->c x y<=0) (h2:∀x y,B1.getLast?=some x->A2.head?=some y->c x y<=0) :
  ∀x∈A1++B1,∀y∈A2++B2,c x y<=0:=by
 intro x hx y hy
 rcases List.mem_append.1 hx with hx|hx<;>rcases List.mem_append.1 hy with hy|hy
 ·exact zLk hA x hx y hy
 ·exact zYd hc (zPs hA) (zLj hB) h1 x hx y hy
 ·exact zYd hc (zPs hB) (zLj hA) h2 x hx y hy
 ·exact zLk hB x hx y hy
theorem zOd (hc:uK c) (h0:∀x y,c x y=0->x=y):∀{a b:List α},Asc c a->Asc c b->a.Perm b->a=b
 |[],b,_,_,h=>(List.nil_perm.1 h).symm▸rfl
 |x::a,[],_,_,h=>absurd h.length_eq (by simp)
 | x::a,y::b,ha,hb,h=>by
  have hxy:x=y:=by
   have h1:c y x<=0:=zJc hc hb x (h.mem_iff.1 List.mem_cons_self)
   have h2:c x y<=0:=zJc hc ha y (h.mem_iff.2 List.mem_cons_self)
   have:=hc.swap x y
   exact h0 x y (by omega)
  subst hxy
  rw[zOd hc h0 (List.pairwise_cons.1 ha).2 (List.pairwise_cons.1 hb).2 ((List.perm_cons x).1 h)]
def yBg (x:α):List α->List α
 |[]=>[x]
 |y::l=>if c x y<0 then x::y::l else y::yBg x l
theorem zFx (x:α):∀l:List α,(yBg (c:=c) x l).Perm (x::l)
 |[]=>.refl _
 |y::l=>by
  unfold yBg
  split
  ·exact .refl _
  ·exact((zFx x l).cons y).trans (.swap x y l)
theorem zXq (hc:uK c) (x:α):∀{l:List α},Asc c l->Asc c (yBg (c:=c) x l)
 |[],_=>List.pairwise_singleton ..
 | y::l,h=>by
  unfold yBg
  split
  ·rename_i hl
   refine List.pairwise_cons.2 ⟨λz hz=>?_,h⟩
   exact hc.trans _ _ _ (by omega) (zJc hc h z hz)
  ·rename_i hl
   refine List.pairwise_cons.2 ⟨λz hz=>?_,zXq hc x (List.pairwise_cons.1 h).2⟩
   rcases List.mem_cons.1 ((zFx (c:=c) x l).mem_iff.1 hz) with rfl|hz
   ·exact hc.le_of_not_lt hl
   ·exact(List.pairwise_cons.1 h).1 z hz
def xEf (l:List α):List α:=l.foldl (λout x=>yBg (c:=c) x out) []
theorem zPg (hc:uK c):∀(l out:List α),Asc c out->Asc c (l.foldl (λout x=>yBg (c:=c) x out) out)/\(l.foldl (λout x=>yBg (c:=c) x out) out).Perm (l++out)
 |[],out,h=>⟨h,.refl _⟩
 |x::l,out,h=>by
  obtain⟨h1,h2⟩:=zPg hc l _ (zXq hc x h)
  refine⟨h1,h2.trans ?_⟩
  exact((zFx (c:=c) x out).append_left l).trans (List.perm_middle)
theorem yJg (hc:uK c) (l:List α):Asc c (xEf (c:=c) l):=(zPg hc l [] List.Pairwise.nil).1
theorem zFs (hc:uK c) (l:List α):(xEf (c:=c) l).Perm l:=by
 have:=(zPg hc l [] List.Pairwise.nil).2
 rwa [List.append_nil] at this
end
theorem yAn {a b d:Int} (h1:uG a b<=0) (h2:uG b d<=0):uG a d<=0:=by unfold uG at *;grind
theorem zOa :∀{a b d:List UInt8},zCg a b<=0->zCg b d<=0->zCg a d<=0
 |[],_,[],_,_=>by simp[Lib.compareBytes]
 |[],_,_::_,_,_=>by simp[Lib.compareBytes]
 |_::_,[],_,h,_=>by simp[Lib.compareBytes] at h
 |_::_,_::_,[],_,h=>by simp[Lib.compareBytes] at h
 |a::r,b::s,d::t,h1,h2=>by
  have ih:=@zOa r s t
  unfold zCg at *
  rw[Lib.compareBytes] at h1 h2 ⊢
  simp only[zTh] at *
  grind
theorem yNf {α β γ:Type} {f:γ->α} {g:γ->β} {c:α->α->Int} {d:β->β->Int} (hc:uK c) (hd:uK d):uK (λx y=>if c (f x) (f y)=0 then d (g x) (g y) else c (f x) (f y)) where
 swap x y:=by
  have h1:=hc.swap (f x) (f y);have h2:=hd.swap (g x) (g y)
  by_cases e:c (f x) (f y)=0
  ·rw[if_pos e,if_pos (by omega),h2]
  ·rw[if_neg e,if_neg (by omega),h1]
 trans x y z:=by
  have h1:=hc.trans (f x) (f y) (f z);have h2:=hd.trans (g x) (g y) (g z)
  have h3:=hc.swap (f x) (f z);have h4:=hc.trans (f z) (f x) (f y);have h5:=hc.trans (f y) (f z) (f x)
  have h6:=hc.swap (f x) (f y);have h7:=hc.swap (f y) (f z)
  intro a b
  by_cases e:c (f x) (f y)=0<;>by_cases e':c (f y) (f z)=0<;>simp only[e,e',if_true,if_false] at a b
  ·have e3:c (f x) (f z)=0:=by have:=h1 (by omega) (by omega);have:=h5 (by omega);have:=hc.trans (f z) (f y) (f x) (by omega) (by omega);omega
   simp only[e3,if_true];exact h2 a b
  ·have e3:c (f x) (f z)≠0:=λq=>by have:=h4 (by omega) (by omega);omega
   simp only[e3,if_false];exact h1 (by omega) b
  ·have e3:c (f x) (f z)≠0:=λq=>by have:=h5 (by omega) (by omega);omega
   simp only[e3,if_false];exact h1 a (by omega)
  ·have e3:c (f x) (f z)≠0:=λq=>by have:=h4 (by omega) (by omega);omega
   simp only[e3,if_false];exact h1 a b
theorem yDz :uK uG:=⟨yGg,λ_ _ _=>yAn⟩
theorem ySe :uK zCg:=⟨zSh,λ_ _ _=>zOa⟩
theorem yQm :uK yHa:=yNf (f:=Val.n) (g:=Val.s) yDz ySe
theorem cmpV_ok :uK zTe:=yNf (f:=Val.k) (g:=id) yDz yQm
def yZ :List Val->List Val->Int
 |[],[]=>0
 |[],_::_ => -1
 |_::_,[]=>1
 |a::r,b::s=>if zTe a b=0 then yZ r s else zTe a b
theorem zSj :∀{a b:List Val},yZ a b=0->a=b
 |[],[],_=>rfl
 |[],_::_,h=>by simp[yZ] at h
 |_::_,[],h=>by simp[yZ] at h
 |a::r,b::s,h=>by
  unfold yZ at h
  split at h
  ·rename_i e;rw[zGe.1 e,zSj h]
  ·rename_i e;exact absurd h e
theorem zGg :∀(a b:List Val),yZ b a = -yZ a b
 |[],[]=>rfl
 |[],_::_=>rfl
 |_::_,[]=>rfl
 |a::r,b::s=>by
  have h1:=cmpV_ok.swap a b
  unfold yZ
  by_cases e:zTe a b=0
  ·rw[if_pos e,if_pos (by omega),zGg r s]
  ·rw[if_neg e,if_neg (by omega),h1]
theorem uS :∀{a b d:List Val},yZ a b<=0->yZ b d<=0->yZ a d<=0
 |[],_,[],_,_=>by simp[yZ]
 |[],_,_::_,_,_=>by simp[yZ]
 |_::_,[],_,h,_=>by simp[yZ] at h
 |_::_,_::_,[],_,h=>by simp[yZ] at h
 | a ::r,b::s,d::t,h1,h2=>by
  unfold yZ at h1 h2 ⊢
  by_cases e:zTe a b=0
  ·obtain rfl:=zGe.1 e
   rw[if_pos e] at h1
   by_cases e':zTe a d=0
   ·rw[if_pos e'] at h2 ⊢;exact uS h1 h2
   ·rw[if_neg e'] at h2 ⊢;exact h2
  ·rw[if_neg e] at h1
   by_cases e':zTe b d=0
   ·obtain rfl:=zGe.1 e'
    rw[if_neg e];exact h1
   ·rw[if_neg e'] at h2
    have h3:=cmpV_ok.trans _ _ _ h1 h2
    have h4:zTe a d≠0:=λq=>by
     obtain rfl:=zGe.1 q
     have:=cmpV_ok.swap a b;omega
    rw[if_neg h4];exact h3
theorem vW :uK yZ:=⟨zGg,λ_ _ _=>uS⟩
theorem zZr {a b:List (List Val)} (ha:Asc yZ a) (hb:Asc yZ b) (h:a.Perm b):a=b:=zOd vW (λ_ _=>zSj) ha hb h
end Go.Eng
