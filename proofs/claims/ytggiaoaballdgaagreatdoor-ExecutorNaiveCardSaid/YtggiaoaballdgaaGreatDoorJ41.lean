/- A part of the proof: see the last text. -/
import Derived.Test.YtggiaoaballdgaaGreatDoorJ11
import Derived.Test.YtggiaoaballdgaaGreatDoorJ12
import Derived.Test.YtggiaoaballdgaaGreatDoorJ40
import Derived.Test.YtggiaoaballdgaaGreatDoorJ9
set_option linter.unusedSimpArgs false
set_option linter.unusedVariables false
namespace Go.Eng
open Go Go.Proofs
open Nat renaming reduceAdd → ra, reduceMul → rb, reduceSub → rc
set_option maxRecDepth 20000
set_option maxHeartbeats 32000000
attribute [local irreducible] wpI xU
variable {G:Nat->Option (List D)}
section
variable (s:Sl Tbl) (b:Bnd) (W:List Nat) (h:WOK s.items b.tabs.items W) (l:Sl I64)
include h
theorem zUu (r:ExR) (ih:∀x∈r.args.items,∃k,zA (XG G) TT 60 [sl 5 zQ s,yL b,zM x,sl 1 I l]=some (.bool k)):∃k,zA (XG G) TT 60 [sl 5 zQ s,yL b,r.enc,sl 1 I l]=some (.bool k):=by
 suffices h:∃v,zA (XG G) TT 60 [sl 5 zQ s,yL b,r.enc,sl 1 I l]=some v/\∃k,v=.bool k by
  obtain⟨v,h1,k,rfl⟩:=h;exact⟨k,h1⟩
 refine zS T60 rfl (by simp only[go_sem]) ?_
 unfold Tryz.f60 F60
 simp only[Option.getD_some]
 have c1:=xOm (G:=G) s b W h r.b.1
 have c2:=xPb (G:=G) l (xEh W r.b.1)
 simp only[zLe] at c1 ih
 have hlt:=r.args.lt
 generalize (l.items.any λx=>x.1==xEh W r.b.1)=q at *
 simp +decide only[go_sem,ra]
 cases a0:(r.a.1==2)
 ·refine gw (an3 c1 c2 a0) ?_
  refine lpC (T:=Nat) [0,3,5,6,9] (λk=>[(9,.int .i64 (k:Int))]) (λ_=>[]) (λ_=>⟨[],[]⟩) (λk=>k<=r.args.items.length) (λk=>r.args.items.length-k) 0 (by simp) ?_
  rintro k hk
  by_cases h:k<r.args.items.length
  ·obtain⟨l_x,x,g_x,w_x⟩:=elm (L:=r.args.items) (k:=k) (by assumption) (by omega)
   obtain⟨v,hv⟩:=ih x (List.mem_of_getElem? g_x)
   cases v
   ·refine gw (an7 c1 c2 a0 l_x g_x w_x hv) ?_
    simp +decide only[go_sem]
    exact⟨_,rfl⟩
   ·refine gw (an7 c1 c2 a0 l_x g_x w_x hv) ?_
    exact⟨k+1,by simp +decide only[go_sem]<;>rfl,by omega,by omega⟩
  ·have l_e1:((k:Int)<((r.args.items).length:Int))=False:=by simp;omega
   refine gw (an4 c1 c2 a0 l_e1) ?_
   simp +decide only[go_sem]
   exact⟨_,rfl⟩
 ·cases q
  ·refine gw (an3 c1 c2 a0) ?_
   simp +decide only[go_sem]
   exact⟨_,rfl⟩
  ·refine gw (an3 c1 c2 a0) ?_
   refine lpC (T:=Nat) [0,3,5,6,9] (λk=>[(9,.int .i64 (k:Int))]) (λ_=>[]) (λ_=>⟨[],[]⟩) (λk=>k<=r.args.items.length) (λk=>r.args.items.length-k) 0 (by simp) ?_
   rintro k hk
   by_cases h:k<r.args.items.length
   ·obtain⟨l_x,x,g_x,w_x⟩:=elm (L:=r.args.items) (k:=k) (by assumption) (by omega)
    obtain⟨v,hv⟩:=ih x (List.mem_of_getElem? g_x)
    cases v
    ·refine gw (an7 c1 c2 a0 l_x g_x w_x hv) ?_
     simp +decide only[go_sem]
     exact⟨_,rfl⟩
    ·refine gw (an7 c1 c2 a0 l_x g_x w_x hv) ?_
     exact⟨k+1,by simp +decide only[go_sem]<;>rfl,by omega,by omega⟩
   ·have l_e1:((k:Int)<((r.args.items).length:Int))=False:=by simp;omega
    refine gw (an4 c1 c2 a0 l_e1) ?_
    simp +decide only[go_sem]
    exact⟨_,rfl⟩
theorem zWl :∀(N:Nat) (e:Ex),SizeOf.sizeOf (zM e)<N->∃k,zA (XG G) TT 60 [sl 5 zQ s,yL b,zM e,sl 1 I l]=some (.bool k)
 |0,e,hN=>absurd hN (Nat.not_lt_zero _)
 |N+1,e,hN=>by
  obtain⟨r,he,hs⟩:=e.open
  rw[he]
  exact zUu s b W h l r λx hx=>zWl N x (by have:=hs x hx;omega)
theorem yIi (r:ExR):∃k,zA (XG G) TT 60 [sl 5 zQ s,yL b,r.enc,sl 1 I l]=some (.bool k):=by
 obtain⟨e,he⟩:=Ex.close r
 rw[<-he];exact zWl s b W h l _ e (Nat.lt_succ_self _)
end
end Go.Eng
namespace Go.Eng
open Go Go.Proofs
open Nat renaming reduceAdd → ra, reduceMul → rb, reduceSub → rc
set_option maxRecDepth 20000
set_option maxHeartbeats 32000000
variable {G:Nat->Option (List D)}
def numL :List I64:=[⟨0,by decide⟩,⟨1,by decide⟩,⟨2,by decide⟩]
def xHr (n:Nat):Sl I64:=⟨some (numL.take n),by
 show (numL.take n).length<4611686018427387904
 have:(numL.take n).length<=numL.length:=List.length_take_le' ..
 have h3:numL.length=3:=rfl
 omega⟩
theorem yQo (n:Nat):sl 1 I (xHr n)=.slice none 1 ([.int .i64 0,.int .i64 1,.int .i64 2].take n):=by
 simp only[sl,xHr,List.map_take];rfl
def yUq (c:Cas) (k:Nat):List Src:=(List.range k).flatMap λi=>match c.fr.items[i]?,c.al.items[i]? with
 |some x,some a=>(match atI c.s.items x.1 with|some t=>[⟨t.name,a⟩]|none=>[])
 |_,_=>[]
def yBk (c:Cas) (k:Nat):List Col:=(List.range k).flatMap λi=>match c.fr.items[i]? with
 |some x=>(match atI c.s.items x.1 with|some t=>t.cols.items|none=>[])
 |none=>[]
theorem yEs {c:Cas} {k:Nat} {x:I64} {a:Str} {t:Tbl} (h1:c.fr.items[k]?=some x) (h2:c.al.items[k]?=some a) (h3:atI c.s.items x.1=some t):yUq c (k+1)=yUq c k++[⟨t.name,a⟩]:=by
 unfold yUq;rw[List.range_succ,List.flatMap_append,List.flatMap_singleton,h1,h2];simp only[h3]
theorem zQq {c:Cas} {k:Nat} {x:I64} {t:Tbl} (h1:c.fr.items[k]?=some x) (h3:atI c.s.items x.1=some t):yBk c (k+1)=yBk c k++t.cols.items:=by
 unfold yBk;rw[List.range_succ,List.flatMap_append,List.flatMap_singleton,h1];simp only[h3]
structure xVl (c:Cas) (p:Nat×List Src×List Col):Prop where
 k:p.1<=c.fr.items.length
 s:p.2.1.length=p.1
 v:p.2.2.length<=20*p.1
 z:p.1=0->p.2.2=[]
 sv:p.2.1=yUq c p.1
 vv:p.2.2=yBk c p.1
 ok:∀i x,i<p.1->c.fr.items[i]?=some x->∃t,atI c.s.items x.1=some t
theorem yYg {c:Cas} (h3:c.fr.items.length<=3) (h20:∀t∈c.s.items,t.cols.items.length<=20) (h:∀i x,i<c.fr.items.length->c.fr.items[i]?=some x->∃t,atI c.s.items x.1=some t):∃W,WOK c.s.items c.fr.items W:=by
 refine⟨c.fr.items.map λx=>match atI c.s.items x.1 with|some t=>t.cols.items.length|none=>0,by simp,h3,λi v hv=>?_⟩
 obtain⟨t,ht⟩:=h i v (List.getElem?_eq_some_iff.1 hv).1 hv
 refine⟨t,ht,by rw[List.getElem?_map,hv];simp[ht],h20 t ?_⟩
 obtain⟨k,_,hk⟩:=zFo ht
 exact List.mem_of_getElem? hk
structure zWh (c:Cas) (b1 b2 b3:Bool):Prop where
 b1:b1=true
 b2:b2=true
 b3:b3=true
 l1:1<=c.fr.items.length
 l3:c.fr.items.length<=3
 la:c.al.items.length=c.fr.items.length
 fr:∀(i:Nat) (x:I64),c.fr.items[i]?=some x->0<=x.1/\x.1<(c.s.items.length:Int)
 al:∀a:Str,a∈c.al.items->a.length<=30
def BQ (c:Cas) (b1 b2 b3:Bool) (v:D):Prop:=∃(b:Bnd) (ok:Bool),v=.tuple [yL b,.bool ok]/\(ok=true\/zWh c b1 b2 b3->b1=true/\b3=true/\b.w=c.w/\b.tabs.items=c.fr.items/\c.fr.items≠[]/\(b.src=cn (yUq c c.fr.items.length)/\b.vars=cn (yBk c c.fr.items.length))/\∃W,WOK c.s.items c.fr.items W)
attribute [local irreducible] wpI xU
theorem ySj (c:Cas) (b1 b2 b3:Bool) (h24:zA (XG G) TT 56 [sl 5 zQ c.s]=some (.bool b1)) (h39:b1=true->zA (XG G) TT 57 [sl 5 zQ c.s]=some (.bool b2)) (h42:zA (XG G) TT 58 [c.w.enc,.int .i64 8]=some (.bool b3))
  (h20:b1=true->∀t∈c.s.items,t.cols.items.length<=20) :
  ∃(b:Bnd) (ok:Bool),zA (XG G) TT 26 [zFd c]=some (.tuple [yL b,.bool ok])/\(ok=true\/zWh c b1 b2 b3->b1=true/\b3=true/\b.w=c.w/\b.tabs.items=c.fr.items/\c.fr.items≠[]/\(b.src=cn (yUq c c.fr.items.length)/\b.vars=cn (yBk c c.fr.items.length))/\∃W,WOK c.s.items c.fr.items W):=by
 suffices h:∃v,zA (XG G) TT 26 [zFd c]=some v/\BQ c b1 b2 b3 v by
  obtain⟨v,h1,b,ok,rfl,h2⟩:=h;exact⟨b,ok,h1,h2⟩
 have hno:∀v,v=D.tuple [yL ⟨⟨none,by simp⟩,c.w,⟨none,by simp⟩,⟨none,by simp⟩⟩,.bool false]->¬zWh c b1 b2 b3->BQ c b1 b2 b3 v:=λv e hn=>⟨_,false,e,λh=>h.elim (λh=>by cases h) (λh=>absurd h hn)⟩
 refine zS T26 rfl (by simp only[go_sem]) ?_
 unfold Tryz.f26 F26
 simp only[Option.getD_some]
 have hfl:=c.fr.lt
 simp only[vT] at h42
 simp +decide only[go_sem]
 cases b1
 ·refine gw (an h24 h42) ?_
  simp +decide only[go_sem,ra]
  exact hno _ rfl (λh=>by cases h.b1)
 have h39:=h39 rfl
 cases b2
 ·refine gw (an3 h24 h42 h39) ?_
  simp +decide only[go_sem,ra]
  exact hno _ rfl (λh=>by cases h.b2)
 by_cases l1:(c.fr.items.length:Int)<1
 ·refine gw (an4 h24 h42 h39 l1) ?_
  simp +decide only[go_sem,ra]
  exact hno _ rfl (λh=>by have:=h.l1;omega)
 by_cases l3:(3:Int)<(c.fr.items.length:Int)
 ·refine gw (an5 h24 h42 h39 l1 l3) ?_
  simp +decide only[go_sem,ra]
  exact hno _ rfl (λh=>by have:=h.l3;omega)
 cases la:((c.al.items.length:Int) != (c.fr.items.length:Int))
 ·cases b3
  ·refine gw (an6 h24 h42 h39 l1 l3 la) ?_
   simp +decide only[go_sem,ra]
   exact hno _ rfl (λh=>by cases h.b3)
  have hal:c.al.items.length=c.fr.items.length:=by simp at la;omega
  refine gw (an6 h24 h42 h39 l1 l3 la) ?_
  refine lpC (T:=Nat×List Src×List Col) [1,2,4,5] (λp=>[(5,.int .i64 (p.1:Int))]) (λp=>[(4,[.int .i64 5,.str [],.nil,.nil,.nil,.nil,.nil,.nil,.nil,gT 1 2 (p.2.1.map zAu),.int .i64 c.w.a.1,.str c.w.s,.str c.w.t,.int .i64 c.w.b.1,.int .i64 c.w.c.1,.int .i64 c.w.d.1,.str c.w.u,sl 8 zM c.w.args,.nil,.nil,.int .i64 0,.str [],.int .i64 0,gT 0 1 ((c.fr.items.take p.1).map I),gT 2 5 (p.2.2.map vr),.nil])]) (λp=>⟨[],gV p.1 (p.2.2.map vr)⟩) (xVl c) (λp=>c.fr.items.length-p.1) (0,[],[]) (by exact⟨Nat.zero_le _,rfl,Nat.le_refl _,λ_=>rfl,rfl,rfl,λi x h=>absurd h (Nat.not_lt_zero _)⟩) ?_
  rintro ⟨k,S,V⟩ hI
  obtain⟨hk,hS,hV,hz,hsv,hvv,hok⟩:=hI
  simp only at hk hS hV hz hsv hvv hok ⊢
  have hSl:S.length<4611686018427387904:=by omega
  have hVl:V.length<4611686018427387904:=by omega
  have hTl:(c.fr.items.take k).length<4611686018427387904:=Nat.lt_of_le_of_lt (List.length_take_le' ..) c.fr.lt
  have sc1:∀g,zF g (gT 1 2 (S.map zAu))=sl 2 zAu (cn S):=λg=>by rw[zOy 1 2 (zL zAu (λ_=>rfl) S),qF 2 zAu hSl]
  have sc2:∀g,zF g (gT 0 1 ((c.fr.items.take k).map I))=sl 1 I (cn (c.fr.items.take k)):=λg=>by rw[zOy 0 1 (zL I zEm _),qF 1 I hTl]
  have sc3:∀g,zF g (gT 2 5 (V.map vr))=sl 5 vr (cn V):=λg=>by rw[zOy 2 5 (zQt V),qF 5 vr hVl]
  have hbad:∀v,v=D.tuple [yL ⟨cn S,c.w,cn (c.fr.items.take k),cn V⟩,.bool false]->¬zWh c true true true->BQ c true true true v:=λv e hn=>⟨_,false,e,λh=>h.elim (λh=>by cases h) (λh=>absurd h hn)⟩
  have o1:=λl=>yCi 1 2 l
  have o2:=λl=>yCi 0 1 l
  have o3:=λl=>yCi 2 5 l
  have q1':=λl=>zPp 1 2 l
  have q2':=λl=>zPp 0 1 l
  have q3':=λl=>zPp 2 5 l
  by_cases h1:k<c.fr.items.length
  ·obtain⟨l_x,x,g_x,w_x⟩:=elm (L:=c.fr.items) (k:=k) (by assumption) (by omega)
   obtain⟨a,g_a⟩:∃a,c.al.items[k]?=some a:=⟨_,List.getElem?_eq_getElem (by omega)⟩
   by_cases x0:x.1<0
   ·refine gw (an9 h24 h42 h39 l1 l3 la sc1 sc2 (an9 sc3 o1 o2 o3 q1' q2' q3' l_x (an4 g_x w_x g_a x0))) ?_
    simp +decide only[go_sem,ra,sc1,sc2,sc3]
    exact hbad _ rfl (λh=>by have:=(h.fr k x g_x).1;omega)
   by_cases x1:(c.s.items.length:Int)<=x.1
   ·refine gw (an9 h24 h42 h39 l1 l3 la sc1 sc2 (an9 sc3 o1 o2 o3 q1' q2' q3' l_x (an5 g_x w_x g_a x0 x1))) ?_
    simp +decide only[go_sem,ra,sc1,sc2,sc3]
    exact hbad _ rfl (λh=>by have:=(h.fr k x g_x).2;omega)
   by_cases x2:(30:Int)<(a.length:Int)
   ·refine gw (an9 h24 h42 h39 l1 l3 la sc1 sc2 (an9 sc3 o1 o2 o3 q1' q2' q3' l_x (an6 g_x w_x g_a x0 x1 x2))) ?_
    simp +decide only[go_sem,ra,sc1,sc2,sc3]
    exact hbad _ rfl (λh=>by have:=h.al a (List.mem_of_getElem? g_a);omega)
   obtain⟨n,hn⟩:∃n:Nat,x.1=n:=⟨x.1.toNat,by omega⟩
   obtain⟨t,ht⟩:∃t,c.s.items[n]?=some t:=⟨_,List.getElem?_eq_getElem (by omega)⟩
   have ht':atI c.s.items x.1=some t:=by rw[hn];exact ht
   have h20t:=h20 rfl t (List.mem_of_getElem? ht)
   have cv:=yMt (G:=G) t h20t
   simp only[xQ] at cv
   have e1:=λm=>yPh m 0 1 ((c.fr.items.take k).map I)
   have e2:=λm=>yPh m 1 2 (S.map zAu)
   have e3:=λm=>yPh m 2 5 (V.map vr)
   have p1:=xAl k (V.map vr) ((c.fr.items.take k).map I) (.int .i64 x.1) (by rw[List.length_map,List.length_take];omega) (λh=>by rw[hz h];rfl)
   have p2:=xAk k (V.map vr) (S.map zAu) (.agg [.str t.name,.str a]) (by rw[List.length_map,hS]) (λh=>by rw[hz h];rfl)
   have p3:=xAj k (V.map vr) (t.cols.items.map vr)
   have m1:((c.fr.items.take k).length+1<=16777216)=True:=eq_true (by rw[List.length_take];omega)
   have m2:(S.length+1<=16777216)=True:=eq_true (by omega)
   have m3:(V.length+t.cols.items.length<=16777216)=True:=eq_true (by omega)
   repeat (first|(with_reducible first|refine q1 ?_|refine q2 ?_|refine q3 ?_|refine q4 ?_|refine q5 ?_|refine q6 ?_|refine q7 ?_|refine q8 ?_|refine q9 ?_|refine q10 ?_|refine q11 ?_|refine q12 (by decide) ?_)|((first|with_reducible refine q13 ?_|((with_reducible refine q14 ?_ ?_);focus exact rfl));intro K hK;simp +decide only[go_sem,ra,o1,o2,o3,q1',q2',q3',l_x,g_x,w_x,g_a,x0,x1,x2,ht',cv,e1,e2,e3,p1,p2,p3,m1,m2,m3,List.length_map];with_reducible refine hK _ ?_;clear hK K)|(with_reducible refine q15 ?_;intro K J hK hJ;simp +decide only[go_sem];(with_reducible first|refine hK ?_|refine hJ ?_);clear hK hJ K J))
   refine⟨(k+1,S++[⟨t.name,a⟩],V++t.cols.items),?_,⟨by simp only;omega,by simp[hS],by simp only[List.length_append];omega,λh=>by simp at h,by simp only;rw[yEs g_x g_a ht',hsv],by simp only;rw[zQq g_x ht',hvv],λi y hi hy=>?_⟩,by simp only;omega⟩
   ·rw[List.take_add_one,g_x,List.map_append,List.map_append,List.map_append]
    exact by simp +decide only[go_sem]<;>rfl
   ·by_cases hik:i<k
    ·exact hok i y hik hy
    ·obtain rfl:i=k:=by simp only at hi;omega
     rw[g_x] at hy;cases hy
     exact⟨t,ht'⟩
  ·have l_e1:((k:Int)<((c.fr.items).length:Int))=False:=by simp;omega
   have hkn:k=c.fr.items.length:=by omega
   obtain⟨W,hW⟩:=yYg (c:=c) (by omega) (h20 rfl) (λi x hi hx=>hok i x (by omega) hx)
   have htk:c.fr.items.take k=c.fr.items:=by rw[hkn,List.take_length]
   have hci:(cn c.fr.items).items=c.fr.items:=yR c.fr.lt
   rw[htk] at sc2
   rw[htk]
   obtain⟨kk,h43⟩:=yIi (G:=G) c.s ⟨cn S,c.w,cn c.fr.items,cn V⟩ W (by rw[hci];exact hW) (xHr c.fr.items.length) c.w
   rw[yQo] at h43
   simp only[zLe,vT] at h43
   have t0':Int.toNat 0=0:=rfl
   have s0':∀g,zC g (List.take c.fr.items.length [D.int IntKind.i64 0,D.int IntKind.i64 1,D.int IntKind.i64 2])=List.take c.fr.items.length [D.int IntKind.i64 0,D.int IntKind.i64 1,D.int IntKind.i64 2]:=λg=>by
    have:[D.int IntKind.i64 0,D.int IntKind.i64 1,D.int IntKind.i64 2]=numL.map I:=rfl
    rw[this,<-List.map_take];exact zL I zEm _
   have hf3:((c.fr.items.length:Int)<=((3:Nat):Int))=True:=eq_true (by omega)
   refine gw (an9 h24 h42 h39 l1 l3 la sc1 sc2 (an9 sc3 o1 o2 o3 q1' q2' q3' l_e1 (an4 hf3 t0' s0' h43))) ?_
   simp +decide only[go_sem,ra,sc1,sc2,sc3]
   exact⟨⟨cn S,c.w,cn c.fr.items,cn V⟩,kk,rfl,λ_=>⟨rfl,rfl,rfl,hci,λe=>by rw[e] at l1;exact l1 (by decide),⟨by rw[hsv,hkn],by rw[hvv,hkn]⟩,W,hW⟩⟩
 ·refine gw (an6 h24 h42 h39 l1 l3 la) ?_
  simp +decide only[go_sem,ra]
  exact hno _ rfl (λh=>by have:=h.la;simp at la;omega)
end Go.Eng
namespace Go.Eng
open Go Go.Proofs
open Nat renaming reduceAdd → ra, reduceMul → rb, reduceSub → rc
set_option maxRecDepth 20000
set_option maxHeartbeats 32000000
attribute [local irreducible] wpI xU
theorem zDs {α:Type} {p:α->Bool} {l:List α} {k:Nat} {x:α} (h:(l.take k).all p=true) (g:l[k]?=some x) (hx:p x=true):(l.take (k+1)).all p=true:=by
 rw[List.take_add_one,g,List.all_append,h];simp[hx]
theorem zCs {α:Type} {p:α->Bool} {l:List α} {k:Nat} {x:α} (g:l[k]?=some x) (hx:p x=false):l.all p=false:=by
 cases h:l.all p
 ·rfl
 ·rw[List.all_eq_true.1 h x (List.mem_of_getElem? g)] at hx;cases hx
def neB (k:Sl Str):Bool:=!((k.items.length:Int)==0)
def fgB (f:FgS):Bool:=!((f.cols.items.length:Int)==0)&&((f.cols.items.length:Int)==(f.refs.items.length:Int))
def okB (x:Stm):Bool:=zZa x.name&&(!((x.cols.items.length:Int)==0)&&(x.cols.items.all zVu&&(x.keys.items.all neB&&x.fgns.items.all fgB)))
theorem xPa (x:Stm) (hx:zHs x):zA (XG GK) TT 161 [wL x]=some (.bool (!okB x)):=by
 obtain⟨x1,x2,x3,x4,x5,x6,x7,x8,x9⟩:=hx
 refine zD T161 rfl (by simp only[go_sem]) ?_
 unfold Tryz.f161 xJv
 simp only[Option.getD_some]
 have c1:=yDp x.name (by omega)
 simp +decide only[go_sem]
 refine gw c1 ?_
 cases n:(zZa x.name)
 ·refine gw (an c1 n) ?_
  simp +decide only[go_sem]
  simp only[n,okB,Bool.false_and,Bool.not_false]
 cases n2:((x.cols.items.length:Int)==0)
 ·refine gw (an3 c1 n n2) ?_
  refine lpC (T:=Nat) [3,4] (λk=>[(4,.int .i64 (k:Int))]) (λ_=>[]) (λ_=>⟨[],[]⟩) (λk=>k<=x.cols.items.length/\(x.cols.items.take k).all zVu=true) (λk=>x.cols.items.length-k) 0 (by simp) ?_
  rintro k1 ⟨hk1,hP1⟩
  by_cases h1:k1<x.cols.items.length
  ·obtain⟨l_y,y,g_y,w_y⟩:=elm (L:=x.cols.items) (k:=k1) (by assumption) (by omega)
   have hc:=xAx y (by have:=x6 y (List.mem_of_getElem? g_y);omega)
   simp only[yGa] at hc
   cases o:(zVu y)
   ·refine gw (an8 c1 n n2 l_y g_y w_y hc o) ?_
    simp +decide only[go_sem]
    have:=zCs g_y o
    simp only[n,n2,okB,this,Bool.false_and,Bool.and_false,Bool.not_false]
   ·refine gw (an8 c1 n n2 l_y g_y w_y hc o) ?_
    exact⟨k1+1,by simp +decide only[go_sem]<;>rfl,⟨by omega,zDs hP1 g_y o⟩,by omega⟩
  have l_e1:((k1:Int)<((x.cols.items).length:Int))=False:=by simp;omega
  rw[List.take_of_length_le (by omega)] at hP1
  refine gw (an4 c1 n n2 l_e1) ?_
  refine lpC (T:=Nat) [3,5] (λk=>[(5,.int .i64 (k:Int))]) (λ_=>[]) (λ_=>⟨[],[]⟩) (λk=>k<=x.keys.items.length/\(x.keys.items.take k).all neB=true) (λk=>x.keys.items.length-k) 0 (by simp) ?_
  rintro k2 ⟨hk2,hP2⟩
  by_cases h2:k2<x.keys.items.length
  ·obtain⟨l_y,y,g_y,w_y⟩:=elm (L:=x.keys.items) (k:=k2) (by assumption) (by omega)
   cases o:((y.items.length:Int)==0)
   ·refine gw (an8 c1 n n2 l_e1 l_y g_y w_y o) ?_
    exact⟨k2+1,by simp +decide only[go_sem]<;>rfl,⟨by omega,zDs hP2 g_y (by rw[neB,o];rfl)⟩,by omega⟩
   ·refine gw (an8 c1 n n2 l_e1 l_y g_y w_y o) ?_
    simp +decide only[go_sem]
    have:=zCs (p:=neB) g_y (by rw[neB,o];rfl)
    simp only[n,n2,okB,this,Bool.false_and,Bool.and_false,Bool.not_false]
  have l_e2:((k2:Int)<((x.keys.items).length:Int))=False:=by simp;omega
  rw[List.take_of_length_le (by omega)] at hP2
  refine gw (an5 c1 n n2 l_e1 l_e2) ?_
  refine lpC (T:=Nat) [3,6] (λk=>[(6,.int .i64 (k:Int))]) (λ_=>[]) (λ_=>⟨[],[]⟩) (λk=>k<=x.fgns.items.length/\(x.fgns.items.take k).all fgB=true) (λk=>x.fgns.items.length-k) 0 (by simp) ?_
  rintro k3 ⟨hk3,hP3⟩
  by_cases h3:k3<x.fgns.items.length
  ·obtain⟨l_y,y,g_y,w_y⟩:=elm (L:=x.fgns.items) (k:=k3) (by assumption) (by omega)
   cases o:((y.cols.items.length:Int)==0)
   ·cases o2:((y.cols.items.length:Int)==(y.refs.items.length:Int))
    ·have o3:((y.cols.items.length:Int) != (y.refs.items.length:Int))=true:=by rw[bne,o2];rfl
     refine gw (an9 c1 n n2 l_e1 l_e2 l_y g_y w_y (an3 o o2 o3)) ?_
     simp +decide only[go_sem]
     have:=zCs (p:=fgB) g_y (by rw[fgB,o,o2];rfl)
     simp only[n,n2,okB,this,Bool.and_false,Bool.not_false]
    ·have o3:((y.cols.items.length:Int) != (y.refs.items.length:Int))=false:=by rw[bne,o2];rfl
     refine gw (an9 c1 n n2 l_e1 l_e2 l_y g_y w_y (an3 o o2 o3)) ?_
     exact⟨k3+1,by simp +decide only[go_sem]<;>rfl,⟨by omega,zDs hP3 g_y (by rw[fgB,o,o2];rfl)⟩,by omega⟩
   ·refine gw (an9 c1 n n2 l_e1 l_e2 l_y g_y w_y o) ?_
    simp +decide only[go_sem]
    have:=zCs (p:=fgB) g_y (by rw[fgB,o];rfl)
    simp only[n,n2,okB,this,Bool.and_false,Bool.not_false]
  have l_e3:((k3:Int)<((x.fgns.items).length:Int))=False:=by simp;omega
  rw[List.take_of_length_le (by omega)] at hP3
  refine gw (an6 c1 n n2 l_e1 l_e2 l_e3) ?_
  simp +decide only[go_sem]
  simp only[n,n2,okB,hP1,hP2,hP3,Bool.not_true,Bool.not_false,Bool.and_self]
 ·refine gw (an3 c1 n n2) ?_
  simp +decide only[go_sem]
  simp only[n,n2,okB,Bool.false_and,Bool.and_false,Bool.not_true,Bool.not_false]
def xSo (x:Stm):Bool:=decide (8<x.cols.items.length)||(decide (4<x.keys.items.length)||(decide (4<x.fgns.items.length)||decide (4<x.checks.items.length)))
def kdF (seen:List (Sl Str)):List (Sl Str)->Bool
 |[]=>false
 |k::r=>(yBq k.items||seen.any λo=>eqS k.items o.items)||kdF (seen++[k]) r
theorem yKd {l:List (Sl Str)} {k:Nat} {x:Sl Str} (h:l[k]?=some x):kdF (l.take k) (l.drop k)=((yBq x.items||(l.take k).any λo=>eqS x.items o.items)||kdF (l.take (k+1)) (l.drop (k+1))):=by
 rw[zCk h,kdF,List.take_add_one,h];rfl
def exB (s:List Tbl) (x:Stm):Bool:=(fnd (λt:Tbl=>t.name==x.name) 0 s).isSome||(yBq (x.cols.items.map (·.name))||(kdF [] x.keys.items||x.fgns.items.any λf=>yBq f.cols.items))
theorem zYp {α:Type} {p:α->Bool} {l:List α} {k:Nat} {x:α} (h:(l.take k).any p=false) (g:l[k]?=some x) (hx:p x=false):(l.take (k+1)).any p=false:=by
 rw[List.take_add_one,g,List.any_append,h];simp[hx]
theorem yEg {α:Type} {p:α->Bool} {l:List α} {k:Nat} {x:α} (g:l[k]?=some x) (hx:p x=true):l.any p=true:=
 List.any_eq_true.2 ⟨x,List.mem_of_getElem? g,hx⟩
theorem xVf (s:Sl Tbl) (x:Stm) (hx:zHs x):zA (XG GK) TT 162 [sl 5 zQ s,wL x]=some (.bool (exB s.items x)):=by
 obtain⟨x1,x2,x3,x4,x5,x6,x7,x8,x9⟩:=hx
 refine zD T162 rfl (by simp only[go_sem]) ?_
 unfold Tryz.f162 xJu
 simp only[Option.getD_some]
 have c1:=yNq (G:=GK) s x.name
 unfold exB
 generalize fnd (λt:Tbl=>t.name==x.name) 0 s.items=o at *
 cases o with
 |some j=>
  simp only[yHf] at c1
  simp +decide only[go_sem,ra]
  refine gw c1 ?_
  simp +decide only[go_sem]
  rfl
 | none=>
  simp only[yHf] at c1
  rw[Option.isSome_none,Bool.false_or]
  simp +decide only[go_sem,ra]
  refine gw c1 ?_
  refine lpC (T:=Nat) [5,8,9] (λk=>[(9,.int .i64 (k:Int)),(8,zMm 1 (((x.cols.items.take k).map (·.name)).map S))]) (λ_=>[]) (λk=>⟨[],zVv (((x.cols.items.take k).map (·.name)).map S)⟩) (λk=>k<=x.cols.items.length) (λk=>x.cols.items.length-k) 0 (by simp) ?_
  rintro k1 hk1
  by_cases h1:k1<x.cols.items.length
  ·obtain⟨l_y,y,g_y,w_y⟩:=elm (L:=x.cols.items) (k:=k1) (by assumption) (by omega)
   have hl:((((x.cols.items.take k1).map (·.name)).map S).length+1<=16777216)=True:=by
    have:(((x.cols.items.take k1).map (·.name)).map S).length<=x.cols.items.length:=by simp only[List.length_map];exact List.length_take_le' ..
    simp only[eq_iff_iff,iff_true];omega
   refine gw (an5 c1 l_y g_y w_y hl) ?_
   refine⟨k1+1,?_,by omega,by omega⟩
   rw[List.take_add_one,g_y,List.map_append,List.map_append]
   exact by simp +decide only[go_sem]<;>rfl
  have l_e1:((k1:Int)<((x.cols.items).length:Int))=False:=by simp;omega
  rw[List.take_of_length_le (by omega)]
  have hst:zF noR (zMm 1 ((x.cols.items.map (·.name)).map S))=sl 1 S (cn (x.cols.items.map (·.name))):=by rw[uZ (zWv _),qF _ _ (by rw[List.length_map];omega)]
  have c2:=zOx (G:=GK) (cn (x.cols.items.map (·.name)))
  rw[yR (by rw[List.length_map];omega)] at c2
  refine gw (an4 c1 l_e1 hst c2) ?_
  cases d1:(yBq (x.cols.items.map (·.name)))
  ·rw [Bool.false_or]
   refine gw (an5 c1 l_e1 hst c2 d1) ?_
   refine lpC (T:=Nat) [5,10] (λk=>[(10,.int .i64 (k:Int))]) (λ_=>[]) (λ_=>⟨[],zVv ((x.cols.items.map (·.name)).map S)⟩) (λk=>k<=x.keys.items.length/\kdF (x.keys.items.take k) (x.keys.items.drop k)=kdF [] x.keys.items) (λk=>x.keys.items.length-k) 0 (by exact⟨Nat.zero_le _,rfl⟩) ?_
   rintro k2 ⟨hk2,hP⟩
   by_cases h2:k2<x.keys.items.length
   ·obtain⟨l_y,y,g_y,w_y⟩:=elm (L:=x.keys.items) (k:=k2) (by assumption) (by omega)
    rw[yKd g_y] at hP
    have c3:=zOx (G:=GK) y
    cases d2:(yBq y.items)
    ·rw[d2,Bool.false_or] at hP
     refine gw (an9 c1 l_e1 hst c2 d1 l_y g_y w_y (an c3 d2)) ?_
     refine lpC (T:=Nat) [5,10,11] (λk=>[(11,.int .i64 (k:Int))]) (λ_=>[]) (λ_=>⟨[],zVv ((x.cols.items.map (·.name)).map S)⟩) (λj=>j<=k2/\((x.keys.items.take j).any λo=>eqS y.items o.items)=false) (λj=>k2-j) 0 (by simp) ?_
     rintro j ⟨hj,hQ⟩
     by_cases h3:j<k2
     ·have l2:((j:Int)<(k2:Int))=True:=eq_true (by omega)
      have h4:j<x.keys.items.length:=by omega
      obtain⟨l_z,z,g_z,w_z⟩:=elm (L:=x.keys.items) (k:=j) (by assumption) (by omega)
      have c4:=yIy (G:=GK) y z
      cases c:(eqS y.items z.items)
      ·refine gw (an9 c1 l_e1 hst c2 d1 l_y g_y w_y (an8 c3 d2 l_z g_z w_z l2 c4 c)) ?_
       exact⟨j+1,by simp +decide only[go_sem]<;>rfl,⟨by omega,zYp hQ g_z c⟩,by omega⟩
      ·refine gw (an9 c1 l_e1 hst c2 d1 l_y g_y w_y (an8 c3 d2 l_z g_z w_z l2 c4 c)) ?_
       simp +decide only[go_sem]
       have:((x.keys.items.take k2).any λo=>eqS y.items o.items)=true:=yEg (k:=j) (by rw[List.getElem?_take,if_pos h3,g_z]) c
       rw[this,Bool.true_or] at hP
       rw[<-hP,Bool.true_or]
     ·have l2:((j:Int)<(k2:Int))=False:=eq_false (by omega)
      obtain rfl:j=k2:=by omega
      rw[hQ,Bool.false_or] at hP
      refine gw (an9 c1 l_e1 hst c2 d1 l_y g_y w_y (an3 c3 d2 l2)) ?_
      exact⟨j+1,by simp +decide only[go_sem]<;>rfl,⟨by omega,hP⟩,by omega⟩
    ·rw[d2,Bool.true_or,Bool.true_or] at hP
     refine gw (an9 c1 l_e1 hst c2 d1 l_y g_y w_y (an c3 d2)) ?_
     simp +decide only[go_sem]
     rw[<-hP,Bool.true_or]
   have l_e2:((k2:Int)<((x.keys.items).length:Int))=False:=by simp;omega
   rw[List.drop_eq_nil_of_le (by omega),kdF] at hP
   rw[<-hP,Bool.false_or]
   refine gw (an6 c1 l_e1 hst c2 d1 l_e2) ?_
   refine lpC (T:=Nat) [5,12] (λk=>[(12,.int .i64 (k:Int))]) (λ_=>[]) (λ_=>⟨[],zVv ((x.cols.items.map (·.name)).map S)⟩) (λk=>k<=x.fgns.items.length/\((x.fgns.items.take k).any λf=>yBq f.cols.items)=false) (λk=>x.fgns.items.length-k) 0 (by simp) ?_
   rintro k3 ⟨hk3,hQ⟩
   by_cases h3:k3<x.fgns.items.length
   ·obtain⟨l_y,y,g_y,w_y⟩:=elm (L:=x.fgns.items) (k:=k3) (by assumption) (by omega)
    have c3:=zOx (G:=GK) y.cols
    cases d2:(yBq y.cols.items)
    ·refine gw (an9 c1 l_e1 hst c2 d1 l_e2 l_y g_y (an3 w_y c3 d2)) ?_
     exact⟨k3+1,by simp +decide only[go_sem]<;>rfl,⟨by omega,zYp hQ g_y d2⟩,by omega⟩
    ·refine gw (an9 c1 l_e1 hst c2 d1 l_e2 l_y g_y (an3 w_y c3 d2)) ?_
     simp +decide only[go_sem]
     rw[yEg (p:=λf:FgS=>yBq f.cols.items) g_y d2]
   have l_e3:((k3:Int)<((x.fgns.items).length:Int))=False:=by simp;omega
   rw[List.take_of_length_le (by omega)] at hQ
   refine gw (an7 c1 l_e1 hst c2 d1 l_e2 l_e3) ?_
   simp +decide only[go_sem]
   rw[hQ]
  ·refine gw (an5 c1 l_e1 hst c2 d1) ?_
   simp +decide only[go_sem]
   rw[Bool.true_or]
end Go.Eng
