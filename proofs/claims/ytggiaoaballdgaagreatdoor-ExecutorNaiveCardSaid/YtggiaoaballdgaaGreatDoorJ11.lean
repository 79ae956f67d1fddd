/- A part of the proof: see the last text. -/
import Derived.Test.YtggiaoaballdgaaGreatDoorJ10
import Derived.Test.YtggiaoaballdgaaGreatDoorJ8
set_option linter.unusedSimpArgs false
set_option linter.unusedVariables false
namespace Go.Eng
open Go Go.Proofs
open Nat renaming reduceAdd → ra, reduceMul → rb, reduceSub → rc
set_option maxRecDepth 20000
set_option maxHeartbeats 32000000
attribute [local irreducible] wpI xU
variable {G:Nat->Option (List D)}
def eqF {α:Type} (e:α->α->Bool):List α->List α->Bool
 |[],[]=>true
 |a::r,b::t=>e a b&&eqF e r t
 |_,_=>false
def eqS (a b:List Str):Bool:=eqF (λx y=>x==y) a b
def eqI (a b:List I64):Bool:=eqF (λx y=>x.1==y.1) a b
theorem zOs {α:Type} {e:α->α->Bool}:∀{a b:List α},¬a.length=b.length->eqF e a b=false
 |[],[],h=>absurd rfl h
 |[],_::_,_=>rfl
 |_::_,[],_=>rfl
 |a::r,b::t,h=>by
  rw[eqF,zOs (a:=r) (b:=t) (λk=>h (by simp[k])),Bool.and_false]
theorem zPh {α:Type} {e:α->α->Bool} {a b:List α} {k:Nat} {x y:α} (h:a[k]?=some x) (h2:b[k]?=some y):eqF e (a.drop k) (b.drop k)=(e x y&&eqF e (a.drop (k+1)) (b.drop (k+1))):=by
 rw[zCk h,zCk h2,eqF]
theorem yXi {a b:Int} (h:¬a=b):(a != b)=true:=by simp[h]
theorem xHt {a b:Int} (h:a=b):(a != b)=false:=by simp[h]
theorem yIy (a b:Sl Str):zA (XG G) TT 239 [sl 1 S a,sl 1 S b]=some (.bool (eqS a.items b.items)):=by
 refine zD T239 rfl (by simp only[go_sem]) ?_
 unfold Tryz.f239 xIt
 simp only[Option.getD_some]
 have hlt:=a.lt
 simp +decide only[go_sem,ra]
 by_cases hl:a.items.length=b.items.length
 ·have hl':=xHt (congrArg (Nat.cast (R:=Int)) hl)
  refine gw hl' ?_
  refine lpC (T:=Nat) [0,1,5] (λk=>[(5,.int .i64 (k:Int))]) (λ_=>[]) (λ_=>⟨[],[]⟩) (λk=>k<=a.items.length/\eqF (λx y=>x==y) (a.items.drop k) (b.items.drop k)=eqS a.items b.items) (λk=>a.items.length-k) 0 (by exact⟨Nat.zero_le _,rfl⟩) ?_
  rintro k ⟨hk,hP⟩
  by_cases h:k<a.items.length
  ·obtain⟨l_x,x,g_x,w_x⟩:=elm (L:=a.items) (k:=k) (by assumption) (by omega)
   have h2:k<b.items.length:=by omega
   obtain⟨l_y,y,g_y,w_y⟩:=elm (L:=b.items) (k:=k) (by assumption) (by omega)
   rw[zPh g_x g_y] at hP
   cases c:(x==y)
   ·skip
    refine gw (an8 hl' l_x g_x w_x l_y g_y w_y c) ?_
    rw[c,Bool.false_and] at hP
    simp +decide only[go_sem]
    rw[<-hP]
   ·skip
    refine gw (an8 hl' l_x g_x w_x l_y g_y w_y c) ?_
    rw[c,Bool.true_and] at hP
    exact⟨k+1,by simp +decide only[go_sem]<;>rfl,⟨by omega,hP⟩,by omega⟩
  ·have l_x:((k:Int)<((a.items).length:Int))=False:=by simp;omega
   rw[List.drop_eq_nil_of_le (by omega),List.drop_eq_nil_of_le (by omega),eqF] at hP
   refine gw (an hl' l_x) ?_
   simp +decide only[go_sem]
   rw[<-hP]
 ·have hl':=yXi (show ¬(a.items.length:Int)=(b.items.length:Int) from λh=>hl (Int.ofNat.inj h))
  refine gw hl' ?_
  simp +decide only[go_sem]
  rw[eqS,zOs hl]
theorem xAc (a b:Sl I64):zA (XG G) TT 241 [sl 1 I a,sl 1 I b]=some (.bool (eqI a.items b.items)):=by
 refine zD T241 rfl (by simp only[go_sem]) ?_
 unfold Tryz.f241 xIr
 simp only[Option.getD_some]
 have hlt:=a.lt
 simp +decide only[go_sem,ra]
 by_cases hl:a.items.length=b.items.length
 ·have hl':=xHt (congrArg (Nat.cast (R:=Int)) hl)
  refine gw hl' ?_
  refine lpC (T:=Nat) [0,1,5] (λk=>[(5,.int .i64 (k:Int))]) (λ_=>[]) (λ_=>⟨[],[]⟩) (λk=>k<=a.items.length/\eqF (λx y=>x.1==y.1) (a.items.drop k) (b.items.drop k)=eqI a.items b.items) (λk=>a.items.length-k) 0 (by exact⟨Nat.zero_le _,rfl⟩) ?_
  rintro k ⟨hk,hP⟩
  by_cases h:k<a.items.length
  ·obtain⟨l_x,x,g_x,w_x⟩:=elm (L:=a.items) (k:=k) (by assumption) (by omega)
   have h2:k<b.items.length:=by omega
   obtain⟨l_y,y,g_y,w_y⟩:=elm (L:=b.items) (k:=k) (by assumption) (by omega)
   rw[zPh g_x g_y] at hP
   cases c:(x.1==y.1)
   ·have c2:(x.1 != y.1)=true:=by rw[bne,c];rfl
    refine gw (an9 hl' l_x g_x w_x l_y g_y w_y c c2) ?_
    rw[c,Bool.false_and] at hP
    simp +decide only[go_sem]
    rw[<-hP]
   ·have c2:(x.1 != y.1)=false:=by rw[bne,c];rfl
    refine gw (an9 hl' l_x g_x w_x l_y g_y w_y c c2) ?_
    rw[c,Bool.true_and] at hP
    exact⟨k+1,by simp +decide only[go_sem]<;>rfl,⟨by omega,hP⟩,by omega⟩
  ·have l_x:((k:Int)<((a.items).length:Int))=False:=by simp;omega
   rw[List.drop_eq_nil_of_le (by omega),List.drop_eq_nil_of_le (by omega),eqF] at hP
   refine gw (an hl' l_x) ?_
   simp +decide only[go_sem]
   rw[<-hP]
 ·have hl':=yXi (show ¬(a.items.length:Int)=(b.items.length:Int) from λh=>hl (Int.ofNat.inj h))
  refine gw hl' ?_
  simp +decide only[go_sem]
  rw[eqI,zOs hl]
theorem yKr (a b:Sl I64):zA (XG G) TT 256 [sl 1 I a,sl 1 I b]=some (.bool (eqI a.items b.items)):=by
 refine zD T256 rfl (by simp only[go_sem]) ?_
 unfold Tryz.f256 xIf
 simp only[Option.getD_some]
 have hlt:=a.lt
 simp +decide only[go_sem,ra]
 by_cases hl:a.items.length=b.items.length
 ·have hl':=xHt (congrArg (Nat.cast (R:=Int)) hl)
  refine gw hl' ?_
  refine lpC (T:=Nat) [0,1,12,13] (λk=>[(13,.int .i64 (k:Int))]) (λ_=>[]) (λ_=>⟨[],[]⟩) (λk=>k<=a.items.length/\eqF (λx y=>x.1==y.1) (a.items.drop k) (b.items.drop k)=eqI a.items b.items) (λk=>a.items.length-k) 0 (by exact⟨Nat.zero_le _,rfl⟩) ?_
  rintro k ⟨hk,hP⟩
  by_cases h:k<a.items.length
  ·obtain⟨l_x,x,g_x,w_x⟩:=elm (L:=a.items) (k:=k) (by assumption) (by omega)
   have h2:k<b.items.length:=by omega
   obtain⟨l_y,y,g_y,w_y⟩:=elm (L:=b.items) (k:=k) (by assumption) (by omega)
   rw[zPh g_x g_y] at hP
   cases c:(x.1==y.1)
   ·have c2:(x.1 != y.1)=true:=by rw[bne,c];rfl
    refine gw (an9 hl' l_x g_x w_x l_y g_y w_y c c2) ?_
    rw[c,Bool.false_and] at hP
    simp +decide only[go_sem]
    rw[<-hP]
   ·have c2:(x.1 != y.1)=false:=by rw[bne,c];rfl
    refine gw (an9 hl' l_x g_x w_x l_y g_y w_y c c2) ?_
    rw[c,Bool.true_and] at hP
    exact⟨k+1,by simp +decide only[go_sem]<;>rfl,⟨by omega,hP⟩,by omega⟩
  ·have l_x:((k:Int)<((a.items).length:Int))=False:=by simp;omega
   rw[List.drop_eq_nil_of_le (by omega),List.drop_eq_nil_of_le (by omega),eqF] at hP
   refine gw (an hl' l_x) ?_
   simp +decide only[go_sem]
   rw[<-hP]
 ·have hl':=yXi (show ¬(a.items.length:Int)=(b.items.length:Int) from λh=>hl (Int.ofNat.inj h))
  refine gw hl' ?_
  simp +decide only[go_sem]
  rw[eqI,zOs hl]
def mkI (n:Int) (h:-9223372036854775808<=n/\n<=9223372036854775807):I64:=⟨n,h⟩
def iN (n:Nat):I64:=if h:n<4611686018427387904 then mkI n (by omega) else mkI 0 (by omega)
theorem yUv {n:Nat} (h:n<4611686018427387904):(iN n).1=(n:Int):=by unfold iN;rw[dif_pos h];rfl
def yPc {α:Type} (o:Option (List α)) (h:(o.getD []).length<4611686018427387904):Sl α:=⟨o,h⟩
def cn {α:Type} (l:List α):Sl α:=if h:l.length<4611686018427387904 then(match l,h with|[],_=>yPc none (by simp)|a::r,h=>yPc (some (a::r)) h) else yPc none (by simp)
theorem yR {α:Type} {l:List α} (h:l.length<4611686018427387904):(cn l).items=l:=by
 unfold cn;rw[dif_pos h];cases l<;>rfl
theorem qF {α:Type} (k:Nat) (f:α->D) {l:List α} (h:l.length<4611686018427387904):wW k (l.map f)=sl k f (cn l):=by
 unfold cn;rw[dif_pos h];cases l<;>rfl
def zDz (cols:List Col) (acc:List I64):List Str->Option (List I64)
 |[]=>some acc
 |n::r=>match fnd (λc:Col=>c.name==n) 0 cols with
  |some k=>zDz cols (acc++[iN k]) r
  |none=>none
def zQh :Option (List I64)->D
 |some l=>.tuple [wW 1 (l.map I),.bool true]
 |none=>.tuple [.nil,.bool false]
theorem yCo {α:Type} {p:α->Bool} {l:List α} {k:Nat} (h:fnd p 0 l=some k):k<l.length:=by
 obtain⟨_,x,h2,_⟩:=zXv p l 0 k h
 exact(List.getElem?_eq_some_iff.1 h2).1
theorem yIz {g:Nat->Nat->Nat->Nat->D} (l:List I64):zC g (l.map I)=l.map I:=zL I (λ_=>rfl) l
theorem zWv {g:Nat->Nat->Nat->Nat->D} (l:List Str):zC g (l.map S)=l.map S:=zL S (λ_=>rfl) l
theorem zHe (t:Tbl) (s:Sl Str) (hs:s.items.length<=100):zA (XG G) TT 240 [zQ t,sl 1 S s]=some (zQh (zDz t.cols.items [] s.items)):=by
 refine zD T240 rfl (by simp only[go_sem]) ?_
 unfold Tryz.f240 xIs
 simp only[Option.getD_some]
 simp +decide only[go_sem,ra]
 refine gw trivial ?_
 refine lpC (T:=Nat×List I64) [1,2,6,7] (λp=>[(7,.int .i64 (p.1:Int)),(6,zMm 1 (p.2.map I))]) (λ_=>[]) (λp=>⟨[],zVv (p.2.map I)⟩) (λp=>p.1<=s.items.length/\p.2.length=p.1/\zDz t.cols.items p.2 (s.items.drop p.1)=zDz t.cols.items [] s.items) (λp=>s.items.length-p.1) (0,[]) (by simp) ?_
 rintro ⟨k,acc⟩ ⟨hk,ha,hP⟩
 simp only at hk ha hP ⊢
 by_cases h:k<s.items.length
 ·obtain⟨l_x,x,g_x,w_x⟩:=elm (L:=s.items) (k:=k) (by assumption) (by omega)
  rw[zCk g_x,zDz] at hP
  have hc:=xPh (G:=G) t x
  simp only[xQ] at hc
  have hlt:=t.cols.lt
  have fl:=@yCo _ (λc:Col=>c.name==x) t.cols.items
  generalize fnd (λc:Col=>c.name==x) 0 t.cols.items=o at *
  cases o with
  |none=>
   simp only[yHf] at hc hP
   refine gw (an4 l_x g_x w_x hc) ?_
   simp +decide only[go_sem]
   rw[<-hP];rfl
  |some j=>
   have fl:=fl rfl
   simp only[yHf] at hc hP
   have hl:((acc.map I).length+1<=16777216)=True:=eq_true (by rw[List.length_map];omega)
   refine gw (an5 l_x g_x w_x hc hl) ?_
   refine⟨(k+1,acc++[iN j]),?_,⟨by simp only;omega,by simp[ha],hP⟩,by simp only;omega⟩
   rw[List.map_append,List.map_cons,List.map_nil,I,yUv (show j<4611686018427387904 by omega)]
   exact by simp +decide only[go_sem]<;>rfl
 ·have l_x:((k:Int)<((s.items).length:Int))=False:=by simp;omega
  rw[List.drop_eq_nil_of_le (by omega),zDz] at hP
  refine gw l_x ?_
  simp +decide only[go_sem]
  rw[<-hP,zQh,uZ (yIz acc)]
def yGx (ct cu:List Col):List I64->List I64->Bool
 |x::a,y::b=>(match atI ct x.1,atI cu y.1 with|some c,some d=>c.a.1==d.a.1|_,_=>false)&&yGx ct cu a b
 |_,_=>true
theorem yIs (ct cu:List Col) (b:List I64):yGx ct cu [] b=true:=by cases b<;>rfl
theorem yEi {ct cu:List Col} {a b:List I64} {k:Nat} {x y:I64} {c d:Col} (h:a[k]?=some x) (h2:b[k]?=some y) (hc:atI ct x.1=some c) (hd:atI cu y.1=some d):yGx ct cu (a.drop k) (b.drop k)=((c.a.1==d.a.1)&&yGx ct cu (a.drop (k+1)) (b.drop (k+1))):=by
 rw[zCk h,zCk h2,yGx,hc,hd]
def inC (cols:List Col) (l:List I64):Prop:=∀x∈l,∃c,atI cols x.1=some c
theorem yIr (t u:Tbl) (a b:Sl I64) (hl:a.items.length<=b.items.length) (ha:inC t.cols.items a.items) (hb:inC u.cols.items b.items) :
  zA (XG G) TT 242 [zQ t,zQ u,sl 1 I a,sl 1 I b]=some (.bool (yGx t.cols.items u.cols.items a.items b.items)):=by
 refine zD T242 rfl (by simp only[go_sem]) ?_
 unfold Tryz.f242 xIq
 simp only[Option.getD_some]
 have hlt:=a.lt
 simp +decide only[go_sem,ra]
 refine gw trivial ?_
 refine lpC (T:=Nat) [2,3,4,5,9] (λk=>[(9,.int .i64 (k:Int))]) (λ_=>[]) (λ_=>⟨[],[]⟩) (λk=>k<=a.items.length/\yGx t.cols.items u.cols.items (a.items.drop k) (b.items.drop k)=yGx t.cols.items u.cols.items a.items b.items) (λk=>a.items.length-k) 0 (by exact⟨Nat.zero_le _,rfl⟩) ?_
 rintro k ⟨hk,hP⟩
 by_cases h:k<a.items.length
 ·obtain⟨l_x,x,g_x,w_x⟩:=elm (L:=a.items) (k:=k) (by assumption) (by omega)
  have h2:k<b.items.length:=by omega
  obtain⟨l_y,y,g_y,w_y⟩:=elm (L:=b.items) (k:=k) (by assumption) (by omega)
  obtain⟨c,hc⟩:=ha x (List.mem_of_getElem? g_x)
  obtain⟨d,hd⟩:=hb y (List.mem_of_getElem? g_y)
  rw[yEi g_x g_y hc hd] at hP
  cases e:c.a.1==d.a.1
  ·have e2:(c.a.1 != d.a.1)=true:=by rw[bne,e];rfl
   refine gw (an9 l_x g_x w_x l_y g_y w_y hc hd e2) ?_
   rw[e,Bool.false_and] at hP
   simp +decide only[go_sem]
   rw[<-hP]
  ·have e2:(c.a.1 != d.a.1)=false:=by rw[bne,e];rfl
   refine gw (an9 l_x g_x w_x l_y g_y w_y hc hd e2) ?_
   rw[e,Bool.true_and] at hP
   exact⟨k+1,by simp +decide only[go_sem]<;>rfl,⟨by omega,hP⟩,by omega⟩
 ·have l_x:((k:Int)<((a.items).length:Int))=False:=by simp;omega
  rw[List.drop_eq_nil_of_le (by omega),yIs] at hP
  refine gw l_x ?_
  simp +decide only[go_sem]
  rw[<-hP]
def vr (c:Col):D:=.agg [.int .i64 c.a.1,.int .i64 c.b.1,.int .i64 c.c.1,.int .i64 c.d.1,.bool (!c.e)]
theorem zQt {g:Nat->Nat->Nat->Nat->D} (l:List Col):zC g (l.map vr)=l.map vr:=zL vr (λ_=>rfl) l
@[go_sem] theorem yVa {g:Nat->Nat->Nat->Nat->D} (k:Nat) (s:Sl Col):zF g (sl k vr s)=sl k vr s:=xL k _ s λ_=>rfl
structure Src where
 name:Str
 al:Str
def zAu (s:Src):D:=.agg [.str s.name,.str s.al]
@[go_sem] theorem yTa {g:Nat->Nat->Nat->Nat->D} (k:Nat) (s:Sl Src):zF g (sl k zAu s)=sl k zAu s:=xL k _ s λ_=>rfl
structure Bnd where
 src:Sl Src
 w:ExR
 tabs:Sl I64
 vars:Sl Col
def yL (b:Bnd):D:=.agg [.int .i64 5,.str [],.nil,.nil,.nil,.nil,.nil,.nil,.nil,sl 2 zAu b.src,.int .i64 b.w.a.1,.str b.w.s,.str b.w.t,.int .i64 b.w.b.1,.int .i64 b.w.c.1,.int .i64 b.w.d.1,.str b.w.u,sl 8 zM b.w.args,.nil,.nil,.int .i64 0,.str [],.int .i64 0,sl 1 I b.tabs,sl 5 vr b.vars,.nil]
@[go_sem] theorem zLe (b:Bnd):yL b=.agg [.int .i64 5,.str [],.nil,.nil,.nil,.nil,.nil,.nil,.nil,sl 2 zAu b.src,.int .i64 b.w.a.1,.str b.w.s,.str b.w.t,.int .i64 b.w.b.1,.int .i64 b.w.c.1,.int .i64 b.w.d.1,.str b.w.u,sl 8 zM b.w.args,.nil,.nil,.int .i64 0,.str [],.int .i64 0,sl 1 I b.tabs,sl 5 vr b.vars,.nil]:=rfl
theorem zAx {g:Nat->Nat->Nat->Nat->D} (b:Bnd):zF g (yL b)=yL b:=by simp only[yL,go_sem]
structure WOK (s:List Tbl) (tabs:List I64) (W:List Nat):Prop where
 len:W.length=tabs.length
 few:tabs.length<=3
 src:∀(i:Nat) (v:I64),tabs[i]?=some v->∃t,atI s v.1=some t/\W[i]?=some t.cols.items.length/\t.cols.items.length<=20
def yBd (W:List Nat) (k:Nat):Nat:=(W.take k).sum
theorem zKx {W:List Nat} {k w:Nat} (h:W[k]?=some w):yBd W (k+1)=yBd W k+w:=by
 unfold yBd;rw[List.take_add_one,h,List.sum_append];simp
theorem WOK.at {s:List Tbl} {tabs:List I64} {W:List Nat} (h:WOK s tabs W) {i:Nat} (hi:i<tabs.length):∃(v:I64) (t:Tbl) (w:Nat),tabs[i]?=some v/\atI s v.1=some t/\W[i]?=some w/\t.cols.items.length=w/\w<=20:=by
 obtain⟨t,h1,h2,h3⟩:=h.src i tabs[i] (List.getElem?_eq_getElem hi)
 exact⟨_,t,_,List.getElem?_eq_getElem hi,h1,h2,rfl,h3⟩
theorem WOK.off {s:List Tbl} {tabs:List I64} {W:List Nat} (h:WOK s tabs W):∀k,k<=W.length->yBd W k<=20*k
 |0,_=>by simp[yBd]
 |k+1,hk=>by
  obtain⟨_,_,w,_,_,h3,_,h5⟩:=h.at (i:=k) (by have:=h.len;omega)
  rw[zKx h3]
  have:=WOK.off h k (by omega)
  omega
theorem zWj (a b:Nat) (h:a+b<4611686018427387904):IntKind.i64.wrap ((a:Int)+(b:Int))=((a+b:Nat):Int):=by
 rw[yD _ (by omega)];omega
theorem yZk (s:Sl Tbl) (b:Bnd) (W:List Nat) (h:WOK s.items b.tabs.items W) (n:Nat) (hn:n<=W.length):zA (XG G) TT 114 [sl 5 zQ s,yL b,.int .i64 (n:Int)]=some (.int .i64 (yBd W n:Nat)):=by
 refine zD T114 rfl (by simp only[go_sem]) ?_
 unfold Tryz.f114 xKz
 simp only[Option.getD_some]
 have hW:=h.len
 have hf:=h.few
 simp +decide only[go_sem,ra]
 refine gw trivial ?_
 refine lpC (T:=Nat) [0,2,4,7,8] (λk=>[(7,.int .i64 (yBd W k:Nat)),(8,.int .i64 (k:Int))]) (λ_=>[]) (λ_=>⟨[],[]⟩) (λk=>k<=n) (λk=>n-k) 0 (by simp) ?_
 rintro k hk
 by_cases h1:k<n
 ·obtain⟨v,t,w,g1,g2,g3,g4,g5⟩:=h.at (i:=k) (by omega)
  have hl:((k:Int)<(n:Int))=True:=eq_true (by omega)
  have ho:=h.off k (by omega)
  have hw:=yU k (by omega)
  have ha:=zWj (yBd W k) w (by omega)
  rw[<-zKx g3] at ha
  refine gw (an6 hl g1 g2 g4 ha hw) ?_
  exact⟨k+1,by simp +decide only[go_sem]<;>rfl,by omega,by omega⟩
 ·have hl:((k:Int)<(n:Int))=False:=eq_false (by omega)
  obtain rfl:k=n:=by omega
  refine gw hl ?_
  simp +decide only[go_sem]
theorem xPb (l:Sl I64) (n:Int):zA (XG G) TT 104 [sl 1 I l,.int .i64 n]=some (.bool (l.items.any λx=>x.1==n)):=by
 refine zD T104 rfl (by simp only[go_sem]) ?_
 unfold Tryz.f104 xLh
 simp only[Option.getD_some]
 have hlt:=l.lt
 simp +decide only[go_sem,ra]
 refine gw trivial ?_
 refine lpC (T:=Nat) [0,1,5] (λk=>[(5,.int .i64 (k:Int))]) (λ_=>[]) (λ_=>⟨[],[]⟩) (λk=>k<=l.items.length/\(l.items.take k).any (λx=>x.1==n)=false) (λk=>l.items.length-k) 0 (by simp) ?_
 rintro k ⟨hk,hQ⟩
 by_cases h1:k<l.items.length
 ·obtain⟨l_x,x,g_x,w_x⟩:=elm (L:=l.items) (k:=k) (by assumption) (by omega)
  cases c:(x.1==n)
  ·refine gw (an4 l_x g_x w_x c) ?_
   exact⟨k+1,by simp +decide only[go_sem]<;>rfl,⟨by omega,by rw[List.take_add_one,g_x,List.any_append,hQ];simp[c]⟩,by omega⟩
  ·refine gw (an4 l_x g_x w_x c) ?_
   simp +decide only[go_sem]
   rw[List.any_eq_true.2 ⟨x,List.mem_of_getElem? g_x,c⟩]
 ·have l_e1:((k:Int)<((l.items).length:Int))=False:=by simp;omega
  rw[List.take_of_length_le (by omega)] at hQ
  refine gw l_e1 ?_
  simp +decide only[go_sem]
  rw[hQ]
def yXc (v:Int):List Nat->Nat->Nat->Int
 |[],_,_ => -1
 |w::r,i,f=>bif decide ((f:Int)<=v)&&decide (v<((f+w:Nat):Int)) then(i:Int) else yXc v r (i+1) (f+w)
def xEh (W:List Nat) (v:Int):Int:=yXc v W 0 0
theorem xOm (s:Sl Tbl) (b:Bnd) (W:List Nat) (h:WOK s.items b.tabs.items W) (v:Int):zA (XG G) TT 105 [sl 5 zQ s,yL b,.int .i64 v]=some (.int .i64 (xEh W v)):=by
 refine zD T105 rfl (by simp only[go_sem]) ?_
 unfold Tryz.f105 xLg
 simp only[Option.getD_some]
 have hW:=h.len
 have hf:=h.few
 simp +decide only[go_sem,ra]
 refine gw trivial ?_
 refine lpC (T:=Nat) [0,2,4,7] (λk=>[(7,.int .i64 (k:Int))]) (λ_=>[]) (λ_=>⟨[],[]⟩) (λk=>k<=W.length/\yXc v (W.drop k) k (yBd W k)=xEh W v) (λk=>W.length-k) 0 (by exact⟨Nat.zero_le _,rfl⟩) ?_
 rintro k ⟨hk,hQ⟩
 by_cases h1:k<b.tabs.items.length
 ·obtain⟨u,t,w,g1,g2,g3,g4,g5⟩:=h.at (i:=k) (by omega)
  have hl:((k:Int)<(b.tabs.items.length:Int))=True:=eq_true (by omega)
  have ho:=h.off k (by omega)
  have hw:=yU k (by omega)
  have ha:=zWj (yBd W k) w (by omega)
  have c1:=yZk (G:=G) s b W h k (by omega)
  simp only[zLe] at c1
  rw[zCk g3,yXc] at hQ
  rw[<-zKx g3] at ha hQ
  by_cases c2:(yBd W k:Int)<=v
  ·rw[decide_eq_true c2,Bool.true_and] at hQ
   by_cases c3:v<(yBd W (k+1):Int)
   ·rw[decide_eq_true c3,cond_true] at hQ
    refine gw (an9 hl g1 g2 g4 ha hw c1 c2 c3) ?_
    simp +decide only[go_sem]
    rw[<-hQ]
   ·rw[decide_eq_false c3,cond_false] at hQ
    refine gw (an9 hl g1 g2 g4 ha hw c1 c2 c3) ?_
    exact⟨k+1,by simp +decide only[go_sem]<;>rfl,⟨by omega,hQ⟩,by omega⟩
  ·rw[decide_eq_false c2,Bool.false_and,cond_false] at hQ
   refine gw (an8 hl g1 g2 g4 ha hw c1 c2) ?_
   exact⟨k+1,by simp +decide only[go_sem]<;>rfl,⟨by omega,hQ⟩,by omega⟩
 ·have hl:((k:Int)<(b.tabs.items.length:Int))=False:=eq_false (by omega)
  rw[List.drop_eq_nil_of_le (by omega),yXc] at hQ
  refine gw hl ?_
  simp +decide only[go_sem]
  rw[<-hQ]
inductive yBi :Nat->D->Prop
 |mk (n:Nat) (r:ExR) (h2:r.args.items.length<=2) (hA:r.a.1=18->r.args.items.length=2) (k:∀x∈r.args.items,yBi n (zM x)):yBi (n+1) r.enc
theorem yBi.open {n:Nat} {d:D} (h:yBi n d):∃(m:Nat) (r:ExR),n=m+1/\d=r.enc/\r.args.items.length<=2/\(r.a.1=18->r.args.items.length=2)/\∀x∈r.args.items,yBi m (zM x):=by
 cases h with
 |mk n r h2 hA k=>exact⟨n,r,rfl,rfl,h2,hA,k⟩
theorem xVh (n:Nat):(((n+1:Nat):Int)==0)=false:=by simp;omega
theorem xSn (n:Nat) (h:n<=100):IntKind.i64.wrap (((n+1:Nat):Int)-1)=(n:Int):=by
 rw[yD _ (by omega)];omega
theorem yDd :∀(n:Nat) (r:ExR),n<=100->∃b,zA (XG G) TT 103 [r.enc,.int .i64 (n:Int)]=some (.bool b)/\(b=true->1<=n/\r.args.items.length<=2):=by
 intro n
 induction n with
 |zero=>
  intro r _
  refine⟨false,?_,λh=>by cases h⟩
  refine zD T103 rfl (by simp only[go_sem]) ?_
  unfold Tryz.f103 xEv
  simp only[Option.getD_some]
  have h0:(((0:Nat):Int)==0)=true:=rfl
  simp +decide only[go_sem,ra]
  refine gw h0 ?_
  simp +decide only[go_sem]
 | succ n ih=>
  intro r hn
  suffices h:∃v,zA (XG G) TT 103 [r.enc,.int .i64 ((n+1:Nat):Int)]=some v/\∃b,v=.bool b/\(b=true->1<=n+1/\r.args.items.length<=2) by
   obtain⟨v,h1,b,rfl,h2⟩:=h;exact⟨b,h1,h2⟩
  refine zS T103 rfl (by simp only[go_sem]) ?_
  unfold Tryz.f103 xEv
  simp only[Option.getD_some]
  have h0:=xVh n
  have h1:=xSn n (by omega)
  have hlt:=r.args.lt
  simp +decide only[go_sem,ra]
  refine gw (an h0 h1) ?_
  by_cases h2:(2:Int)<(r.args.items.length:Int)
  ·refine gw (an3 h0 h1 h2) ?_
   simp +decide only[go_sem]
   exact⟨_,rfl,λh=>by cases h⟩
  have hw:∃b,decide (100<IntKind.i64.wrap (IntKind.i64.wrap ((r.t.length:Int)+(r.s.length:Int))+(r.u.length:Int)))=b:=⟨_,rfl⟩
  obtain⟨b,hw⟩:=hw
  cases b
  ·refine gw (an4 h0 h1 h2 hw) ?_
   refine lpC (T:=Nat) [1,2,5] (λk=>[(5,.int .i64 (k:Int))]) (λ_=>[]) (λ_=>⟨[],[]⟩) (λk=>k<=r.args.items.length) (λk=>r.args.items.length-k) 0 (by simp) ?_
   rintro k hk
   by_cases h:k<r.args.items.length
   ·obtain⟨l_x,x,g_x,w_x⟩:=elm (L:=r.args.items) (k:=k) (by assumption) (by omega)
    obtain⟨rx,hx,_⟩:=x.open
    obtain⟨b,hb,_⟩:=ih rx (by omega)
    rw[<-hx] at hb
    cases b
    ·refine gw (an8 h0 h1 h2 hw l_x g_x w_x hb) ?_
     simp +decide only[go_sem]
     exact⟨_,rfl,λh=>by cases h⟩
    ·refine gw (an8 h0 h1 h2 hw l_x g_x w_x hb) ?_
     exact⟨k+1,by simp +decide only[go_sem]<;>rfl,by omega,by omega⟩
   ·have l_e1:((k:Int)<((r.args.items).length:Int))=False:=by simp;omega
    refine gw (an5 h0 h1 h2 hw l_e1) ?_
    simp +decide only[go_sem]
    exact⟨_,rfl,λ_=>⟨by omega,by omega⟩⟩
  ·refine gw (an4 h0 h1 h2 hw) ?_
   simp +decide only[go_sem]
   exact⟨_,rfl,λh=>by cases h⟩
theorem zWs {n:Nat} {l:List Ex} {k:Nat} {x:Ex} (h:∀y∈l.take k,yBi n (zM y)) (g:l[k]?=some x) (hx:yBi n (zM x)):∀y∈l.take (k+1),yBi n (zM y):=by
 intro y hy
 rw[List.take_add_one,g] at hy
 rcases List.mem_append.1 hy with hy|hy
 ·exact h y hy
 ·have hy:y=x:=by simpa using hy
  subst hy;exact hx
theorem yLt :∀(n:Nat) (r:ExR),n<=100->∃b,zA (XG G) TT 58 [r.enc,.int .i64 (n:Int)]=some (.bool b)/\(b=true->yBi n r.enc):=by
 intro n
 induction n with
 | zero=>
  intro r _
  refine⟨false,?_,λh=>by cases h⟩
  refine zD T58 rfl (by simp only[go_sem]) ?_
  unfold Tryz.f58 F58
  simp only[Option.getD_some]
  obtain⟨b,hb,h1⟩:=yDd (G:=G) 0 r (by omega)
  simp only[vT] at hb
  cases b with
  |true=>exact absurd (h1 rfl).1 (by omega)
  |false=>
   simp +decide only[go_sem,ra]
   refine gw hb ?_
   simp +decide only[go_sem]
 | succ n ih=>
  intro r hn
  suffices h:∃v,zA (XG G) TT 58 [r.enc,.int .i64 ((n+1:Nat):Int)]=some v/\∃b,v=.bool b/\(b=true->yBi (n+1) r.enc) by
   obtain⟨v,h1,b,rfl,h2⟩:=h;exact⟨b,h1,h2⟩
  refine zS T58 rfl (by simp only[go_sem]) ?_
  unfold Tryz.f58 F58
  simp only[Option.getD_some]
  have h1:=xSn n (by omega)
  have hlt:=r.args.lt
  obtain⟨b,hb,hs⟩:=yDd (G:=G) (n+1) r (by omega)
  simp only[vT] at hb
  simp +decide only[go_sem,ra]
  refine gw (an h1 hb) ?_
  cases b with
  |false=>
   refine gw (an h1 hb) ?_
   simp +decide only[go_sem]
   exact⟨_,rfl,λh=>by cases h⟩
  |true=>
  obtain⟨_,hs⟩:=hs rfl
  cases h18:(r.a.1==18)
  ·refine gw (an3 h1 hb h18) ?_
   refine lpC (T:=Nat) [1,2,5] (λk=>[(5,.int .i64 (k:Int))]) (λ_=>[]) (λ_=>⟨[],[]⟩) (λk=>k<=r.args.items.length/\∀y∈r.args.items.take k,yBi n (zM y)) (λk=>r.args.items.length-k) 0 (by simp) ?_
   rintro k ⟨hk,hP⟩
   by_cases h:k<r.args.items.length
   ·obtain⟨l_x,x,g_x,w_x⟩:=elm (L:=r.args.items) (k:=k) (by assumption) (by omega)
    obtain⟨rx,hx,_⟩:=x.open
    obtain⟨b,hb,hbx⟩:=ih rx (by omega)
    rw[<-hx] at hb hbx
    cases b
    ·refine gw (an7 h1 hb h18 l_x g_x w_x hb) ?_
     simp +decide only[go_sem]
     exact⟨_,rfl,λh=>by cases h⟩
    ·refine gw (an7 h1 hb h18 l_x g_x w_x hb) ?_
     exact⟨k+1,by simp +decide only[go_sem]<;>rfl,⟨by omega,zWs hP g_x (hbx rfl)⟩,by omega⟩
   ·have l_e1:((k:Int)<((r.args.items).length:Int))=False:=by simp;omega
    rw[List.take_of_length_le (by omega)] at hP
    refine gw (an4 h1 hb h18 l_e1) ?_
    simp +decide only[go_sem]
    exact⟨_,rfl,λ_=>.mk n r hs (λe=>by rw[e] at h18;cases h18) hP⟩
  ·cases h2:((r.args.items.length:Int) != 2)
   ·refine gw (an4 h1 hb h18 h2) ?_
    refine lpC (T:=Nat) [1,2,5] (λk=>[(5,.int .i64 (k:Int))]) (λ_=>[]) (λ_=>⟨[],[]⟩) (λk=>k<=r.args.items.length/\∀y∈r.args.items.take k,yBi n (zM y)) (λk=>r.args.items.length-k) 0 (by simp) ?_
    rintro k ⟨hk,hP⟩
    by_cases h:k<r.args.items.length
    ·obtain⟨l_x,x,g_x,w_x⟩:=elm (L:=r.args.items) (k:=k) (by assumption) (by omega)
     obtain⟨rx,hx,_⟩:=x.open
     obtain⟨b,hb,hbx⟩:=ih rx (by omega)
     rw[<-hx] at hb hbx
     cases b
     ·refine gw (an8 h1 hb h18 h2 l_x g_x w_x hb) ?_
      simp +decide only[go_sem]
      exact⟨_,rfl,λh=>by cases h⟩
     ·refine gw (an8 h1 hb h18 h2 l_x g_x w_x hb) ?_
      exact⟨k+1,by simp +decide only[go_sem]<;>rfl,⟨by omega,zWs hP g_x (hbx rfl)⟩,by omega⟩
    ·have l_e1:((k:Int)<((r.args.items).length:Int))=False:=by simp;omega
     rw[List.take_of_length_le (by omega)] at hP
     refine gw (an5 h1 hb h18 h2 l_e1) ?_
     simp +decide only[go_sem]
     exact⟨_,rfl,λ_=>.mk n r hs (λ_=>by simp at h2;omega) hP⟩
   ·refine gw (an4 h1 hb h18 h2) ?_
    simp +decide only[go_sem]
    exact⟨_,rfl,λh=>by cases h⟩
inductive CjL :D->List Ex->Prop
 |none (r:ExR) (h:r.a.1=0):CjL r.enc []
 |one (e:Ex) (r:ExR) (he:zM e=r.enc) (h0:r.a.1≠0) (h1:r.a.1≠18):CjL (zM e) [e]
 |and (r:ExR) (x y:Ex) (h:r.a.1=18) (hx:r.args.items=[x,y]) (A B:List Ex) (ha:CjL (zM x) A) (hb:CjL (zM y) B):CjL r.enc (A++B)
end Go.Eng
namespace Go.Eng
open Go Go.Proofs
def Knw (W:List Nat) (l:List I64):Prop:=∀x∈l,∃n:Nat,x.1=n/\n<W.length
section
variable {G:Nat->Option (List D)} (s:Sl Tbl) (b:Bnd) (W:List Nat) (known:Sl I64)
end
section
variable {G:Nat->Option (List D)} {s:Sl Tbl} {b:Bnd} {W:List Nat} (h:WOK s.items b.tabs.items W) {known:Sl I64} (hk:Knw W known.items)
include h hk
end
end Go.Eng
