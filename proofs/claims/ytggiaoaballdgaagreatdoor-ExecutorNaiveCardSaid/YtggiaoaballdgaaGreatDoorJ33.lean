/- A part of the proof: see the last text. -/
import Derived.Test.YtggiaoaballdgaaGreatDoorJ32
import Derived.Test.YtggiaoaballdgaaGreatDoorJ12
set_option linter.unusedSimpArgs false
set_option linter.unusedVariables false
namespace Go.Eng
open Go Go.Proofs
open Nat renaming reduceAdd → ra, reduceMul → rb, reduceSub → rc
set_option maxRecDepth 20000
set_option maxHeartbeats 32000000
attribute [local irreducible] wpI xU
variable {G:Nat->Option (List D)}
theorem xUu (m:Mem) (id:Nat) (hid:id<m.boxes.length) (P A S:List (List Val)) (x:List Val) (hA:Asc yZ A) (hA1:A.length≠1) (hl:∀r∈x::A,r.length<=100000) (hn:(P++A++x::S).length<=100000) :
  ∃d M',zG (XG G) TT 135 ⟨m.boxes.set id ((P++A++x::S).map rv),m.toks⟩ [.rsl id 0 (P++A++x::S).length 1,.int .i64 (P.length:Int),.int .i64 ((P.length+A.length:Nat):Int),.int .i64 ((P.length+A.length+1:Nat):Int),.func 43 []]=some (d,⟨m.boxes.set id ((P++M'++S).map rv),m.toks⟩)/\M'.Perm (A++[x])/\Asc yZ M':=by
 suffices hh:∃d m',zG (XG G) TT 135 ⟨m.boxes.set id ((P++A++x::S).map rv),m.toks⟩ [.rsl id 0 (P++A++x::S).length 1,.int .i64 (P.length:Int),.int .i64 ((P.length+A.length:Nat):Int),.int .i64 ((P.length+A.length+1:Nat):Int),.func 43 []]=some (d,m')/\∃M',m'=⟨m.boxes.set id ((P++M'++S).map rv),m.toks⟩/\M'.Perm (A++[x])/\Asc yZ M' by
  obtain⟨d,m',h1,M',rfl,h2⟩:=hh;exact⟨d,M',h1,h2⟩
 have z1:∀X:List D,(m.boxes.set id X)[id]?=some X:=λX=>List.getElem?_set_self hid
 have z2:∀X Y:List D,(m.boxes.set id X).set id Y=m.boxes.set id Y:=λX Y=>List.set_set ..
 have z3:=zHl
 have ta:∀P:Prop,(True/\P)=P:=λP=>propext ⟨λh=>h.2,λh=>⟨trivial,h⟩⟩
 have hN:(P++A++x::S).length=P.length+A.length+1+S.length:=by simp;omega
 rw[hN] at hn ⊢
 generalize hNN:P.length+A.length+1+S.length=N at *
 have w1:IntKind.i64.wrap (((P.length+A.length:Nat):Int)-(P.length:Int))=(A.length:Int):=by rw[yD _ (by omega)];omega
 have o1:((A.length:Int)==1)=false:=by simp;omega
 have w2:IntKind.i64.wrap (((P.length+A.length+1:Nat):Int)-((P.length+A.length:Nat):Int))=1:=by rw[yD _ (by omega)];omega
 have o2:((1:Int)==1)=true:=rfl
 refine zO T135 rfl ?_
 unfold Tryz.f135 yXl
 simp only[Option.getD_some]
 simp +decide only[go_sem,ra]
 refine gw (an8 z1 z2 z3 ta w1 o1 w2 o2) ?_
 refine lpC (T:=Nat×Nat) [0,2,4,14,15] (λp=>[(14,.int .i64 ((P.length+p.1:Nat):Int)),(15,.int .i64 ((P.length+p.2:Nat):Int))]) (λ_=>[]) (λ_=>⟨m.boxes.set id ((P++A++x::S).map rv),m.toks⟩) (λp=>p.1<=p.2/\p.2<=A.length/\(∀(i:Nat) (y:List Val),i<p.1->A[i]?=some y->yZ y x<=0)/\∀(i:Nat) (y:List Val),p.2<=i->A[i]?=some y->yZ x y<0) (λp=>p.2-p.1) (0,A.length) (by exact⟨Nat.zero_le _,Nat.le_refl _,λi y h=>by omega,λi y h h2=>by have:=(List.getElem?_eq_some_iff.1 h2).1;omega⟩) ?_
 rintro ⟨p,q⟩ ⟨hpq,hq,hlo,hhi⟩
 simp only at hpq hq hlo hhi ⊢
 have gx:((P++A++x::S).map rv)[P.length+A.length]?=some (.slice none 3 (x.map vD)):=by
  rw[List.getElem?_map,zHp (A:=P++A) (x:=x) (B:=S) rfl (by simp)];rfl
 have hsx:zC noR (x.map vD)=x.map vD:=zL vD (λv=>yW v) _
 have lP:(((P.length+A.length:Nat):Int)<(N:Int))=True:=eq_true (by omega)
 by_cases h:p<q
 ·have l1:(((P.length+p:Nat):Int)<((P.length+q:Nat):Int))=True:=eq_true (by omega)
  have e0:((P.length+p:Nat):Int)+((P.length+q:Nat):Int)=((P.length+p+(P.length+q):Nat):Int):=by omega
  have e1:=vV (P.length+p+(P.length+q)) (by omega)
  have e2:=zGv (P.length+p+(P.length+q)) (by omega)
  have e3:=zDp (P.length+p+(P.length+q))
  have hh:(P.length+p+(P.length+q)) / 2=P.length+(p+q) / 2:=by omega
  rw[hh] at e3
  have hh1:p<=(p+q) / 2:=by omega
  have hh2:(p+q) / 2<q:=by omega
  generalize (p+q) / 2=r at *
  have e4:=vV (P.length+r) (by omega)
  have e5:=yU (P.length+r) (by omega)
  have l2:(((P.length+r:Nat):Int)<(N:Int))=True:=eq_true (by omega)
  obtain⟨y,hy⟩:∃y,A[r]?=some y:=⟨_,List.getElem?_eq_getElem (by omega)⟩
  have gy:((P++A++x::S).map rv)[P.length+r]?=some (.slice none 3 (y.map vD)):=by
   rw[List.getElem?_map]
   have:(P++A++x::S)[P.length+r]?=some y:=by
    rw[List.append_assoc,List.getElem?_append_right (by omega),show P.length+r-P.length=r by omega,List.getElem?_append_left (by omega),hy]
   rw[this];rfl
  have hsy:zC noR (y.map vD)=y.map vD:=zL vD (λv=>yW v) _
  have hcm:=yIg (G:=G) m x y (hl x (by simp)) (hl y (by simp[List.mem_of_getElem? hy]))
  cases cc:(decide (yZ x y<0))
  ·have hyx:=uK.le_of_not_lt vW (of_decide_eq_false cc)
   refine gw (an9 z1 z2 z3 ta w1 o1 w2 o2 (an9 gx gy hsx hsy lP l1 e0 e1 (an7 e2 e3 e4 e5 l2 hcm cc))) ?_
   exact⟨(r+1,q),by simp +decide only[go_sem]<;>rfl,⟨by omega,hq,λi z hi hz=>uS (zOu hA hz hy (by omega)) hyx,hhi⟩,by simp only;omega⟩
  ·have hxy:=of_decide_eq_true cc
   refine gw (an9 z1 z2 z3 ta w1 o1 w2 o2 (an9 gx gy hsx hsy lP l1 e0 e1 (an7 e2 e3 e4 e5 l2 hcm cc))) ?_
   exact⟨(p,r),by simp +decide only[go_sem]<;>rfl,⟨hh1,by omega,hlo,λi z hi hz=>xOu hxy (zOu hA hy hz hi)⟩,by simp only;omega⟩
 ·have l1:(((P.length+p:Nat):Int)<((P.length+q:Nat):Int))=False:=eq_false (by omega)
  obtain rfl:p=q:=by omega
  have hsp:=List.take_append_drop p A
  have hpl:(A.take p).length=p:=by simp;omega
  have hlo':∀y∈A.take p,yZ y x<=0:=λy hy=>by
   obtain⟨i,hi,e⟩:=List.mem_iff_getElem.1 hy
   rw[hpl] at hi
   exact hlo i y hi (by rw[<-e,List.getElem_take];exact List.getElem?_eq_getElem _)
  have hhi':∀y∈A.drop p,yZ x y<0:=λy hy=>by
   obtain⟨i,hi,e⟩:=List.mem_iff_getElem.1 hy
   exact hhi (p+i) y (by omega) (by rw[<-e,List.getElem_drop];exact List.getElem?_eq_getElem _)
  have hfin:(A.take p++x::A.drop p).Perm (A++[x])/\Asc yZ (A.take p++x::A.drop p):=by
   refine⟨?_,?_⟩
   ·have:=List.perm_middle (a:=x) (l₁:=A.take p) (l₂:=A.drop p)
    rw[hsp] at this
    exact this.trans (by simpa using List.perm_append_comm (l₁:=[x]) (l₂:=A))
   ·have hA':=hA
    rw[<-hsp] at hA'
    refine List.pairwise_append.2 ⟨(List.pairwise_append.1 hA').1,List.pairwise_cons.2 ⟨λy hy=>Int.le_of_lt (hhi' y hy),(List.pairwise_append.1 hA').2.1⟩,λz hz w hw=>?_⟩
    rcases List.mem_cons.1 hw with rfl|hw
    ·exact hlo' z hz
    ·exact(List.pairwise_append.1 hA').2.2 z hz w hw
  have e9:P++A++x::S=P++A.take p++A.drop p++x::([]++S):=by
   conv=>lhs;rw[<-hsp]
   simp only[List.append_assoc,List.nil_append]
  generalize A.take p=A1 at *
  generalize A.drop p=A2 at *
  have hAl:A.length=A1.length+A2.length:=by rw[<-hsp,List.length_append]
  subst hpl
  rw[e9,show P.length+A.length=P.length+A1.length+A2.length by omega]
  refine gw (an9 z1 z2 z3 ta w1 o1 w2 o2 l1) ?_
  refine lpC (T:=List (List Val)×List (List Val)) [0,14,17] (λu=>[(17,.int .i64 ((P.length+A1.length+u.1.length:Nat):Int))]) (λ_=>[]) (λu=>⟨m.boxes.set id ((P++A1++u.1++x::(u.2++S)).map rv),m.toks⟩) (λu=>u.1++u.2=A2) (λu=>u.1.length) (A2,[]) (by exact List.append_nil _) ?_
  rintro ⟨C1,C2⟩ hC
  simp only at hC ⊢
  have hCl:C1.length+C2.length=A2.length:=by rw[<-hC,List.length_append]
  rcases List.eq_nil_or_concat C1 with rfl|⟨C0,y,hC0⟩
  ·have l2:(((P.length+A1.length:Nat):Int)<((P.length+A1.length+0:Nat):Int))=False:=eq_false (by omega)
   refine gw (an9 z1 z2 z3 ta w1 o1 w2 o2 l2) ?_
   simp +decide only[go_sem]
   have hC1:C2=A2:=by simpa using hC
   subst hC1
   exact⟨A1++x::C2,by simp,hfin⟩
  ·rw[List.concat_eq_append] at hC0
   subst hC0
   have hal:(C0++[y]).length=C0.length+1:=by simp
   have hCl':C0.length+1+C2.length=A2.length:=by simpa using hCl
   have l2:(((P.length+A1.length:Nat):Int)<((P.length+A1.length+(C0.length+1):Nat):Int))=True:=eq_true (by omega)
   have w3:IntKind.i64.wrap (((P.length+A1.length+(C0.length+1):Nat):Int)-1)=((P.length+A1.length+C0.length:Nat):Int):=by rw[yD _ (by omega)];omega
   have b1:(((P.length+A1.length+C0.length:Nat):Int)<(N:Int))=True:=eq_true (by omega)
   have b2:(((P.length+A1.length+(C0.length+1):Nat):Int)<(N:Int))=True:=eq_true (by omega)
   have b3:(P.length+A1.length+C0.length+1<=N)=True:=eq_true (by omega)
   have b4:(P.length+A1.length+(C0.length+1)+1<=N)=True:=eq_true (by omega)
   have i1:P.length+A1.length+C0.length=(P++A1++C0).length:=by simp;omega
   have i2:P.length+A1.length+(C0.length+1)=(P++A1++C0++[y]).length:=by simp;omega
   have i3:P.length+A1.length+(C0.length+1)=(P++A1++C0++[y]).length:=by simp;omega
   have g1:((P++A1++(C0++[y])++x::(C2++S)).map rv)[P.length+A1.length+C0.length]?=some (.slice none 3 (y.map vD)):=by
    rw[List.getElem?_map,zHp (A:=P++A1++C0) (x:=y) (B:=x::(C2++S)) (by simp) i1];rfl
   have g2:((P++A1++(C0++[y])++x::(C2++S)).map rv)[P.length+A1.length+(C0.length+1)]?=some (.slice none 3 (x.map vD)):=by
    rw[List.getElem?_map,zHp (A:=P++A1++C0++[y]) (x:=x) (B:=C2++S) (by simp) i2];rfl
   have s1:((P++A1++(C0++[y])++x::(C2++S)).map rv).set (P.length+A1.length+(C0.length+1)) (.slice none 3 (y.map vD))=(P++A1++(C0++[y])++y::(C2++S)).map rv:=by
    rw[show (D.slice none 3 (y.map vD))=rv y from rfl,<-List.map_set,zMv (A:=P++A1++C0++[y]) (x:=x) (B:=C2++S) y (by simp) i2];simp
   have s2:((P++A1++(C0++[y])++y::(C2++S)).map rv).set (P.length+A1.length+C0.length) (.slice none 3 (x.map vD))=(P++A1++C0++x::(y::C2++S)).map rv:=by
    rw[show (D.slice none 3 (x.map vD))=rv x from rfl,<-List.map_set,zMv (A:=P++A1++C0) (x:=y) (B:=y::(C2++S)) x (by simp) i1];simp
   have n1:((P++A1++(C0++[y])++x::(C2++S)).map rv).length=N:=by rw[List.length_map];simp;omega
   have n2:((P++A1++(C0++[y])++y::(C2++S)).map rv).length=N:=by rw[List.length_map];simp;omega
   refine gw (an9 z1 z2 z3 ta w1 o1 w2 o2 (an9 hal l2 w3 b1 b2 b3 b4 g1 (an5 g2 s1 s2 n1 n2))) ?_
   exact⟨(C0,y::C2),by simp +decide only[go_sem]<;>rfl,by rw[<-hC];simp,by simp⟩
end Go.Eng
namespace Go.Eng
open Go
theorem zYn {B:List (List Val)} (h:Asc yZ B) (k:Nat):Asc yZ (B.take k):=by
 have h':=h
 rw[<-List.take_append_drop k B] at h'
 exact zPs h'
theorem zYo {B:List (List Val)} (h:Asc yZ B) (k:Nat):Asc yZ (B.drop k):=by
 have h':=h
 rw[<-List.take_append_drop k B] at h'
 exact zLj h'
theorem zRs {α:Type} {A:List α} {k:Nat} {x:α} (h:(A.take k).getLast?=some x):k≠0/\A[min k A.length-1]?=some x:=by
 rw[List.getLast?_eq_getElem?] at h
 have hl:=(List.getElem?_eq_some_iff.1 h).1
 rw[List.length_take] at h hl
 refine⟨by omega,?_⟩
 rwa [List.getElem?_take_of_lt (by omega)] at h
theorem zRu {α:Type} {A:List α} {k:Nat} {x:α} (h:(A.drop k).head?=some x):A[k]?=some x:=by
 rw[List.head?_eq_getElem?,List.getElem?_drop] at h
 simpa using h
structure SrI (A B:List (List Val)) (h k0 k1 lo hi:Nat):Prop where
 a:k0<=lo
 b:lo<=hi
 c:hi<=k1
 l:k0<lo->∀x y,A[lo-1]?=some x->B[h-lo]?=some y->yZ x y<=0
 r:hi<k1->∀x y,A[hi]?=some x->B[h-1-hi]?=some y->yZ y x<0
def zYv (A B:List (List Val)) (h:Nat):Nat:=if h<A.length then h-B.length else 0
def zVt (A:List (List Val)) (h:Nat):Nat:=if h<A.length then h else A.length
theorem SrI.start (A B:List (List Val)) (h:Nat):zYv A B h<=zVt A h->SrI A B h (zYv A B h) (zVt A h) (zYv A B h) (zVt A h):=λh1=>
 ⟨Nat.le_refl _,h1,Nat.le_refl _,λh=>absurd h (Nat.lt_irrefl _),λh=>absurd h (Nat.lt_irrefl _)⟩
theorem SrI.lo {A B:List (List Val)} {h k0 k1 lo hi c:Nat} (s:SrI A B h k0 k1 lo hi) (h1:lo<=c) (h2:c<hi) {x y:List Val} (hx:A[c]?=some x) (hy:B[h-1-c]?=some y) (hn:¬yZ y x<0):SrI A B h k0 k1 (c+1) hi:=
 ⟨by have:=s.a;omega,h2,s.c,λ_ x' y' e1 e2=>by
  rw[Nat.add_sub_cancel,hx] at e1
  rw[show h-(c+1)=h-1-c by omega,hy] at e2
  cases e1;cases e2
  exact uK.le_of_not_lt vW hn,s.r⟩
theorem SrI.hi {A B:List (List Val)} {h k0 k1 lo hi c:Nat} (s:SrI A B h k0 k1 lo hi) (h1:lo<=c) (h2:c<hi) {x y:List Val} (hx:A[c]?=some x) (hy:B[h-1-c]?=some y) (hn:yZ y x<0):SrI A B h k0 k1 lo c:=
 ⟨s.a,h1,by have:=s.c;omega,s.l,λ_ x' y' e1 e2=>by
  rw[hx] at e1;rw[hy] at e2
  cases e1;cases e2
  exact hn⟩
theorem SrI.cut {A B:List (List Val)} {h k:Nat} (hA:Asc yZ A) (hB:Asc yZ B) (hh:2*h<=A.length+B.length) (hh':A.length+B.length<=2*h+1) (s:SrI A B h (zYv A B h) (zVt A h) k k) :
  k<=A.length/\k<=h/\h-k<=B.length/\∀x∈A.take k++B.take (h-k),∀y∈A.drop k++B.drop (h-k),yZ x y<=0:=by
 have s1:=s.a
 have s2:=s.c
 have hkA:k<=A.length:=by unfold zVt at s2;split at s2<;>omega
 have hkh:k<=h:=by unfold zVt at s2;split at s2<;>omega
 have hkB:h-k<=B.length:=by unfold zYv at s1;split at s1<;>omega
 refine⟨hkA,hkh,hkB,yFd vW (by rw[List.take_append_drop];exact hA) (by rw[List.take_append_drop];exact hB) (λx y e1 e2=>?_) (λx y e1 e2=>?_)⟩
 ·obtain⟨k0,e1⟩:=zRs e1
  rw[Nat.min_eq_left hkA] at e1
  have e2:=zRu e2
  by_cases c:zYv A B h<k
  ·exact s.l c x y e1 e2
  ·have hl:=(List.getElem?_eq_some_iff.1 e2).1
   unfold zYv at c s1;split at c<;>omega
 ·obtain⟨k0,e1⟩:=zRs e1
  rw[Nat.min_eq_left hkB] at e1
  have e2:=zRu e2
  by_cases c:k<zVt A h
  ·rw[show h-k-1=h-1-k by omega] at e1
   exact Int.le_of_lt (s.r c y x e2 e1)
  ·have hl:=(List.getElem?_eq_some_iff.1 e2).1
   unfold zVt at c s2;split at c<;>omega
theorem yFc {A B M1 M2:List (List Val)} {k j:Nat} (h1:M1.Perm (A.take k++B.take j)) (h2:M2.Perm (A.drop k++B.drop j)) (a1:Asc yZ M1) (a2:Asc yZ M2) (hc:∀x∈A.take k++B.take j,∀y∈A.drop k++B.drop j,yZ x y<=0):(M1++M2).Perm (A++B)/\Asc yZ (M1++M2):=by
 refine⟨?_,yAv a1 a2 λx hx y hy=>hc x (h1.mem_iff.1 hx) y (h2.mem_iff.1 hy)⟩
 refine(h1.append h2).trans ?_
 have e:A++B=A.take k++A.drop k++(B.take j++B.drop j):=by rw[List.take_append_drop,List.take_append_drop]
 rw[e]
 simp only[List.append_assoc]
 refine List.Perm.append_left _ ?_
 rw[<-List.append_assoc,<-List.append_assoc]
 exact List.Perm.append_right _ List.perm_append_comm
end Go.Eng
