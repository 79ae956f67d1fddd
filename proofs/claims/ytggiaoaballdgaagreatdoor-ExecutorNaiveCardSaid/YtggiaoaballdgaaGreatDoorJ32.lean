/- A part of the proof: see the last text. -/
import Derived.Test.YtggiaoaballdgaaGreatDoorJ29
set_option linter.unusedSimpArgs false
set_option linter.unusedVariables false
namespace Go.Eng
open Go Go.Proofs
open Nat renaming reduceAdd → ra, reduceMul → rb, reduceSub → rc
set_option maxRecDepth 20000
set_option maxHeartbeats 32000000
attribute [local irreducible] wpI xU
variable {G:Nat->Option (List D)}
theorem zHp {α:Type} {L A:List α} {x:α} {B:List α} {i:Nat} (h:L=A++x::B) (hi:i=A.length):L[i]?=some x:=by subst h hi;exact zUa A x B
theorem zMv {α:Type} {L A:List α} {x:α} {B:List α} {i:Nat} (y:α) (h:L=A++x::B) (hi:i=A.length):L.set i y=A++y::B:=by subst h hi;exact zTs A x y B
theorem zTp (m:Mem) (id:Nat) (hid:id<m.boxes.length) (P X Q Y S:List (List Val)) (hXY:X.length=Y.length) (hn:(P++X++Q++Y++S).length<=100000) (f:D) :
  ∃d,zG (XG G) TT 252 ⟨m.boxes.set id ((P++X++Q++Y++S).map rv),m.toks⟩ [.rsl id 0 (P++X++Q++Y++S).length 1,.int .i64 (P.length:Int),.int .i64 ((P.length+X.length+Q.length:Nat):Int),.int .i64 (X.length:Int),f]=some (d,⟨m.boxes.set id ((P++Y++Q++X++S).map rv),m.toks⟩):=by
 suffices hh:∃d m',zG (XG G) TT 252 ⟨m.boxes.set id ((P++X++Q++Y++S).map rv),m.toks⟩ [.rsl id 0 (P++X++Q++Y++S).length 1,.int .i64 (P.length:Int),.int .i64 ((P.length+X.length+Q.length:Nat):Int),.int .i64 (X.length:Int),f]=some (d,m')/\m'=⟨m.boxes.set id ((P++Y++Q++X++S).map rv),m.toks⟩ by
  obtain⟨d,m',h1,rfl⟩:=hh;exact⟨d,h1⟩
 have z1:∀X:List D,(m.boxes.set id X)[id]?=some X:=λX=>List.getElem?_set_self hid
 have z2:∀X Y:List D,(m.boxes.set id X).set id Y=m.boxes.set id Y:=λX Y=>List.set_set ..
 have z3:=zHl
 have ta:∀P:Prop,(True/\P)=P:=λP=>propext ⟨λh=>h.2,λh=>⟨trivial,h⟩⟩
 have hN:(P++X++Q++Y++S).length=P.length+X.length+Q.length+Y.length+S.length:=by simp;omega
 rw[hN] at hn ⊢
 generalize hNN:P.length+X.length+Q.length+Y.length+S.length=N at *
 refine zO T252 rfl ?_
 unfold Tryz.f252 xIj
 simp only[Option.getD_some]
 simp +decide only[go_sem,ra]
 refine gw (an4 z1 z2 z3 ta) ?_
 refine lpC (T:=(List (List Val)×List (List Val))×(List (List Val)×List (List Val))) [0,1,2,3,10] (λp=>[(10,.int .i64 (p.1.1.length:Int))]) (λ_=>[]) (λp=>⟨m.boxes.set id ((P++p.2.1++p.1.2++Q++p.1.1++p.2.2++S).map rv),m.toks⟩) (λp=>p.1.1++p.1.2=X/\p.2.1++p.2.2=Y/\p.1.1.length=p.2.1.length) (λp=>p.1.2.length) (([],X),([],Y)) (by exact⟨rfl,rfl,rfl⟩) ?_
 rintro ⟨⟨X1,X2⟩,⟨Y1,Y2⟩⟩ ⟨hX,hY,hl⟩
 simp only at hX hY hl ⊢
 have hXl:X.length=X1.length+X2.length:=by rw[<-hX,List.length_append]
 have hYl:Y.length=Y1.length+Y2.length:=by rw[<-hY,List.length_append]
 cases X2 with
 |nil=>
  have hY2:Y2=[]:=List.eq_nil_of_length_eq_zero (by simp at hXl;omega)
  subst hY2
  have l1:((X1.length:Int)<(X.length:Int))=False:=eq_false (by simp at hXl;omega)
  refine gw (an5 z1 z2 z3 ta l1) ?_
  simp +decide only[go_sem]
  simp only[List.append_nil] at hX hY
  subst hX hY
  simp
 | cons x X2=>
  cases Y2 with
  |nil=>simp at hXl hYl;omega
  | cons y Y2=>
   have hXl':X.length=X1.length+(X2.length+1):=by simpa using hXl
   have l1:((X1.length:Int)<(X.length:Int))=True:=eq_true (by omega)
   have w1:IntKind.i64.wrap ((P.length:Int)+(X1.length:Int))=((P.length+X1.length:Nat):Int):=by rw[yD _ (by omega)];omega
   have w2:IntKind.i64.wrap (((P.length+X.length+Q.length:Nat):Int)+(X1.length:Int))=((P.length+X.length+Q.length+X1.length:Nat):Int):=by rw[yD _ (by omega)];omega
   have w3:=yU X1.length (by omega)
   have hYl':Y.length=Y1.length+(Y2.length+1):=by simpa using hYl
   have b1:(((P.length+X1.length:Nat):Int)<(N:Int))=True:=eq_true (by omega)
   have b2:(((P.length+X.length+Q.length+X1.length:Nat):Int)<(N:Int))=True:=eq_true (by omega)
   have b3:(P.length+X1.length+1<=N)=True:=eq_true (by omega)
   have b4:(P.length+X.length+Q.length+X1.length+1<=N)=True:=eq_true (by omega)
   have i1:P.length+X1.length=(P++Y1).length:=by simp;omega
   have i2:P.length+X.length+Q.length+X1.length=(P++Y1++x::X2++Q++X1).length:=by simp;omega
   have g1:((P++Y1++x::X2++Q++X1++y::Y2++S).map rv)[P.length+X1.length]?=some (.slice none 3 (x.map vD)):=by
    rw[List.getElem?_map,zHp (A:=P++Y1) (x:=x) (B:=X2++Q++X1++y::Y2++S) (by simp) i1];rfl
   have g2:((P++Y1++x::X2++Q++X1++y::Y2++S).map rv)[P.length+X.length+Q.length+X1.length]?=some (.slice none 3 (y.map vD)):=by
    rw[List.getElem?_map,zHp (A:=P++Y1++x::X2++Q++X1) (x:=y) (B:=Y2++S) (by simp) i2];rfl
   have s1:((P++Y1++x::X2++Q++X1++y::Y2++S).map rv).set (P.length+X1.length) (.slice none 3 (y.map vD))=(P++Y1++y::X2++Q++X1++y::Y2++S).map rv:=by
    rw[show (D.slice none 3 (y.map vD))=rv y from rfl,<-List.map_set,zMv (A:=P++Y1) (x:=x) (B:=X2++Q++X1++y::Y2++S) y (by simp) i1];simp
   have i3:P.length+X.length+Q.length+X1.length=(P++Y1++y::X2++Q++X1).length:=by simp;omega
   have s2:((P++Y1++y::X2++Q++X1++y::Y2++S).map rv).set (P.length+X.length+Q.length+X1.length) (.slice none 3 (x.map vD))=(P++(Y1++[y])++X2++Q++(X1++[x])++Y2++S).map rv:=by
    rw[show (D.slice none 3 (x.map vD))=rv x from rfl,<-List.map_set,zMv (A:=P++Y1++y::X2++Q++X1) (x:=y) (B:=Y2++S) x (by simp) i3];simp
   have n1:((P++Y1++x::X2++Q++X1++y::Y2++S).map rv).length=N:=by rw[List.length_map];simp;omega
   have n2:((P++Y1++y::X2++Q++X1++y::Y2++S).map rv).length=N:=by rw[List.length_map];simp;omega
   refine gw (an9 z1 z2 z3 ta l1 w1 w2 w3 (an9 b1 b2 b3 b4 g1 g2 s1 s2 (an n1 n2))) ?_
   rw[show X1.length+1=(X1++[x]).length by simp]
   exact⟨((X1++[x],X2),(Y1++[y],Y2)),by simp +decide only[go_sem]<;>rfl,⟨by rw[<-hX];simp,by rw[<-hY];simp,by simp;omega⟩,by simp⟩
structure xSp (A B:List (List Val)) (D1 A' B' D2:List (List Val)):Prop where
 t:D1++B'++A'++D2=B++A
 m:D1.length+A'.length=A.length
 n:B'.length+D2.length=B.length
 a:A'≠[]
 b:B'≠[]
theorem yZb (m:Mem) (id:Nat) (hid:id<m.boxes.length) (P A B S:List (List Val)) (hA:A≠[]) (hB:B≠[]) (hn:(P++A++B++S).length<=100000) (f:D) :
  ∃d,zG (XG G) TT 182 ⟨m.boxes.set id ((P++A++B++S).map rv),m.toks⟩ [.rsl id 0 (P++A++B++S).length 1,.int .i64 (P.length:Int),.int .i64 ((P.length+A.length:Nat):Int),.int .i64 ((P.length+A.length+B.length:Nat):Int),f]=some (d,⟨m.boxes.set id ((P++B++A++S).map rv),m.toks⟩):=by
 suffices hh:∃d m',zG (XG G) TT 182 ⟨m.boxes.set id ((P++A++B++S).map rv),m.toks⟩ [.rsl id 0 (P++A++B++S).length 1,.int .i64 (P.length:Int),.int .i64 ((P.length+A.length:Nat):Int),.int .i64 ((P.length+A.length+B.length:Nat):Int),f]=some (d,m')/\m'=⟨m.boxes.set id ((P++B++A++S).map rv),m.toks⟩ by
  obtain⟨d,m',h1,rfl⟩:=hh;exact⟨d,h1⟩
 have hN:(P++A++B++S).length=P.length+A.length+B.length+S.length:=by simp;omega
 have w1:IntKind.i64.wrap (((P.length+A.length:Nat):Int)-(P.length:Int))=(A.length:Int):=by rw[yD _ (by omega)];omega
 have w2:IntKind.i64.wrap (((P.length+A.length+B.length:Nat):Int)-((P.length+A.length:Nat):Int))=(B.length:Int):=by rw[yD _ (by omega)];omega
 rw[hN] at hn ⊢
 generalize hNN:P.length+A.length+B.length+S.length=N at *
 have h0:xSp A B [] A B []:=⟨by simp,by simp,by simp,hA,hB⟩
 refine zO T182 rfl ?_
 unfold Tryz.f182 xJh
 simp only[Option.getD_some]
 simp +decide only[go_sem,ra]
 refine gw (an w1 w2) ?_
 refine lpC (T:=(List (List Val)×List (List Val))×(List (List Val)×List (List Val))) [0,2,4,10,11] (λp=>[(10,.int .i64 (p.1.2.length:Int)),(11,.int .i64 (p.2.1.length:Int))]) (λ_=>[]) (λp=>⟨m.boxes.set id ((P++p.1.1++p.1.2++p.2.1++p.2.2++S).map rv),m.toks⟩) (λp=>xSp A B p.1.1 p.1.2 p.2.1 p.2.2) (λp=>p.1.2.length+p.2.1.length) (([],A),(B,[])) (by exact h0) ?_
 rintro ⟨⟨D1,A'⟩,⟨B',D2⟩⟩ hI
 simp only at hI ⊢
 obtain⟨it,im,iN,ia,ib⟩:=hI
 have ha:=List.length_pos_iff.2 ia
 have hb:=List.length_pos_iff.2 ib
 have k1:IntKind.i64.wrap (((P.length+A.length:Nat):Int)-(A'.length:Int))=(((P++D1).length:Nat):Int):=by rw[yD _ (by omega)];simp;omega
 rcases Nat.lt_trichotomy A'.length B'.length with hlt|heq|hgt
 ·have c1:((A'.length:Int) != (B'.length:Int))=true:=by simp;omega
  have c2:((B'.length:Int)<(A'.length:Int))=False:=eq_false (by omega)
  obtain⟨B1,B2,rfl,hB2⟩:∃B1 B2,B'=B1++B2/\B2.length=A'.length:=⟨B'.take (B'.length-A'.length),B'.drop (B'.length-A'.length),(List.take_append_drop _ _).symm,by simp;omega⟩
  have hBl:(B1++B2).length=B1.length+B2.length:=List.length_append
  obtain⟨d,hs⟩:=zTp (G:=G) m id hid (P++D1) A' B1 B2 (D2++S) hB2.symm (by simp at iN ⊢;omega) f
  have e1:P++D1++A'++B1++B2++(D2++S)=P++D1++A'++(B1++B2)++D2++S:=by simp
  have e2:(P++D1++A'++(B1++B2)++D2++S).length=N:=by simp at iN ⊢;omega
  have e3:(P++D1).length+A'.length+B1.length=P.length+A.length+B1.length:=by simp;omega
  have e4:P++D1++B2++B1++A'++(D2++S)=P++D1++B2++B1++(A'++D2)++S:=by simp
  rw[e1,e2,e3,e4] at hs
  have k2:IntKind.i64.wrap (((P.length+A.length:Nat):Int)+((B1++B2).length:Int))=((P.length+A.length+(B1++B2).length:Nat):Int):=by rw[yD _ (by omega)];omega
  have k3:IntKind.i64.wrap (((P.length+A.length+(B1++B2).length:Nat):Int)-(A'.length:Int))=((P.length+A.length+B1.length:Nat):Int):=by rw[yD _ (by omega)];omega
  have k4:IntKind.i64.wrap (((B1++B2).length:Int)-(A'.length:Int))=(B1.length:Int):=by rw[yD _ (by omega)];omega
  refine gw (an9 w1 w2 c1 c2 k1 k2 k3 k4 hs) ?_
  have r1:B2≠[]:=List.length_pos_iff.1 (by omega)
  have r2:B1≠[]:=List.length_pos_iff.1 (by omega)
  rw[<-hB2]
  exact⟨((D1,B2),(B1,A'++D2)),by simp +decide only[go_sem]<;>rfl,⟨by rw[<-it];simp,by simp;omega,by simp at iN ⊢;omega,r1,r2⟩,by simp;omega⟩
 ·have c1:((A'.length:Int) != (B'.length:Int))=false:=by simp;omega
  obtain⟨d,hs⟩:=zTp (G:=G) m id hid (P++D1) A' [] B' (D2++S) heq (by simp;omega) f
  have e1:P++D1++A'++[]++B'++(D2++S)=P++D1++A'++B'++D2++S:=by simp
  have e2:(P++D1++A'++B'++D2++S).length=N:=by simp;omega
  have e3:(P++D1).length+A'.length+([]:List (List Val)).length=P.length+A.length:=by simp;omega
  have e4:P++D1++B'++[]++A'++(D2++S)=P++B++A++S:=by
   have:P++D1++B'++[]++A'++(D2++S)=P++(D1++B'++A'++D2)++S:=by simp
   rw[this,it];simp
  rw[e1,e2,e3,e4] at hs
  refine gw (an5 w1 w2 c1 k1 hs) ?_
  simp +decide only[go_sem]
 ·have c1:((A'.length:Int) != (B'.length:Int))=true:=by simp;omega
  have c2:((B'.length:Int)<(A'.length:Int))=True:=eq_true (by omega)
  obtain⟨A1,A2,rfl,hA1⟩:∃A1 A2,A'=A1++A2/\A1.length=B'.length:=⟨A'.take B'.length,A'.drop B'.length,(List.take_append_drop _ _).symm,by simp;omega⟩
  have hAl:(A1++A2).length=A1.length+A2.length:=List.length_append
  obtain⟨d,hs⟩:=zTp (G:=G) m id hid (P++D1) A1 A2 B' (D2++S) hA1 (by simp at im ⊢;omega) f
  have e1:P++D1++A1++A2++B'++(D2++S)=P++D1++(A1++A2)++B'++D2++S:=by simp
  have e2:(P++D1++(A1++A2)++B'++D2++S).length=N:=by simp at im ⊢;omega
  have e3:(P++D1).length+A1.length+A2.length=P.length+A.length:=by simp at im ⊢;omega
  have e4:P++D1++B'++A2++A1++(D2++S)=P++(D1++B')++A2++A1++D2++S:=by simp
  rw[e1,e2,e3,e4,hA1] at hs
  have k4:IntKind.i64.wrap (((A1++A2).length:Int)-(B'.length:Int))=(A2.length:Int):=by rw[yD _ (by omega)];omega
  refine gw (an7 w1 w2 c1 c2 k1 k4 hs) ?_
  have r1:A2≠[]:=List.length_pos_iff.1 (by omega)
  have r2:A1≠[]:=List.length_pos_iff.1 (by omega)
  have r3:A1.length+D2.length=B.length:=by omega
  rw[<-hA1]
  exact⟨((D1++B',A2),(A1,D2)),by simp +decide only[go_sem]<;>rfl,⟨by rw[<-it];simp,by simp at im ⊢;omega,r3,r1,r2⟩,by simp;omega⟩
end Go.Eng
namespace Go.Eng
open Go Go.Proofs
variable {G:Nat->Option (List D)}
theorem xOs {x y z:List Val} (h1:yZ x y<=0) (h2:yZ y z<0):yZ x z<0:=by
 by_cases h:yZ x z<0
 ·exact h
 ·have h3:=uK.le_of_not_lt vW h
  have h4:=uS h3 h1
  have:=zGg y z
  omega
theorem xOu {x y z:List Val} (h1:yZ x y<0) (h2:yZ y z<=0):yZ x z<0:=by
 by_cases h:yZ x z<0
 ·exact h
 ·have h3:=uK.le_of_not_lt vW h
  have h4:=uS h2 h3
  have:=zGg x y
  omega
theorem zOu {B:List (List Val)} (h:Asc yZ B) {i j:Nat} {x y:List Val} (hi:B[i]?=some x) (hj:B[j]?=some y) (hij:i<=j):yZ x y<=0:=by
 by_cases e:i=j
 ·subst e;rw[hi] at hj;cases hj;exact uK.refl vW x
 ·obtain⟨h1,rfl⟩:=List.getElem?_eq_some_iff.1 hi
  obtain⟨h2,rfl⟩:=List.getElem?_eq_some_iff.1 hj
  exact List.pairwise_iff_getElem.1 h i j h1 h2 (by omega)
end Go.Eng
namespace Go.Eng
open Go Go.Proofs
open Nat renaming reduceAdd → ra, reduceMul → rb, reduceSub → rc
set_option maxRecDepth 20000
set_option maxHeartbeats 32000000
attribute [local irreducible] wpI xU
variable {G:Nat->Option (List D)}
theorem xUv (m:Mem) (id:Nat) (hid:id<m.boxes.length) (P B S:List (List Val)) (x:List Val) (hB:Asc yZ B) (hl:∀r∈x::B,r.length<=100000) (hn:(P++x::B++S).length<=100000) :
  ∃d M',zG (XG G) TT 135 ⟨m.boxes.set id ((P++x::B++S).map rv),m.toks⟩ [.rsl id 0 (P++x::B++S).length 1,.int .i64 (P.length:Int),.int .i64 ((P.length+1:Nat):Int),.int .i64 ((P.length+1+B.length:Nat):Int),.func 43 []]=some (d,⟨m.boxes.set id ((P++M'++S).map rv),m.toks⟩)/\M'.Perm (x::B)/\Asc yZ M':=by
 suffices hh:∃d m',zG (XG G) TT 135 ⟨m.boxes.set id ((P++x::B++S).map rv),m.toks⟩ [.rsl id 0 (P++x::B++S).length 1,.int .i64 (P.length:Int),.int .i64 ((P.length+1:Nat):Int),.int .i64 ((P.length+1+B.length:Nat):Int),.func 43 []]=some (d,m')/\∃M',m'=⟨m.boxes.set id ((P++M'++S).map rv),m.toks⟩/\M'.Perm (x::B)/\Asc yZ M' by
  obtain⟨d,m',h1,M',rfl,h2⟩:=hh;exact⟨d,M',h1,h2⟩
 have z1:∀X:List D,(m.boxes.set id X)[id]?=some X:=λX=>List.getElem?_set_self hid
 have z2:∀X Y:List D,(m.boxes.set id X).set id Y=m.boxes.set id Y:=λX Y=>List.set_set ..
 have z3:=zHl
 have ta:∀P:Prop,(True/\P)=P:=λP=>propext ⟨λh=>h.2,λh=>⟨trivial,h⟩⟩
 have hN:(P++x::B++S).length=P.length+1+B.length+S.length:=by simp;omega
 have hLl:((P++x::B++S).map rv).length=P.length+1+B.length+S.length:=by rw[List.length_map,hN]
 rw[hN] at hn ⊢
 generalize hNN:P.length+1+B.length+S.length=N at *
 have w1:IntKind.i64.wrap (((P.length+1:Nat):Int)-(P.length:Int))=1:=by rw[yD _ (by omega)];omega
 have o1:((1:Int)==1)=true:=rfl
 refine zO T135 rfl ?_
 unfold Tryz.f135 yXl
 simp only[Option.getD_some]
 simp +decide only[go_sem,ra]
 refine gw (an6 z1 z2 z3 ta w1 o1) ?_
 refine lpC (T:=Nat×Nat) [0,1,4,10,11] (λp=>[(10,.int .i64 ((P.length+1+p.1:Nat):Int)),(11,.int .i64 ((P.length+1+p.2:Nat):Int))]) (λ_=>[]) (λ_=>⟨m.boxes.set id ((P++x::B++S).map rv),m.toks⟩) (λp=>p.1<=p.2/\p.2<=B.length/\(∀(i:Nat) (y:List Val),i<p.1->B[i]?=some y->yZ y x<0)/\∀(i:Nat) (y:List Val),p.2<=i->B[i]?=some y->yZ x y<=0) (λp=>p.2-p.1) (0,B.length) (by exact⟨Nat.zero_le _,Nat.le_refl _,λi y h=>by omega,λi y h h2=>by have:=(List.getElem?_eq_some_iff.1 h2).1;omega⟩) ?_
 rintro ⟨p,q⟩ ⟨hpq,hq,hlo,hhi⟩
 simp only at hpq hq hlo hhi ⊢
 have gx:((P++x::B++S).map rv)[P.length]?=some (.slice none 3 (x.map vD)):=by
  rw[List.getElem?_map,zHp (A:=P) (x:=x) (B:=B++S) (by simp) rfl];rfl
 have hsx:zC noR (x.map vD)=x.map vD:=zL vD (λv=>yW v) _
 have lP:((P.length:Int)<(N:Int))=True:=eq_true (by omega)
 by_cases h:p<q
 ·have l1:(((P.length+1+p:Nat):Int)<((P.length+1+q:Nat):Int))=True:=eq_true (by omega)
  have e0:((P.length+1+p:Nat):Int)+((P.length+1+q:Nat):Int)=((P.length+1+p+(P.length+1+q):Nat):Int):=by omega
  have e1:=vV (P.length+1+p+(P.length+1+q)) (by omega)
  have e2:=zGv (P.length+1+p+(P.length+1+q)) (by omega)
  have e3:=zDp (P.length+1+p+(P.length+1+q))
  have hh:(P.length+1+p+(P.length+1+q)) / 2=P.length+1+(p+q) / 2:=by omega
  rw[hh] at e3
  have hh1:p<=(p+q) / 2:=by omega
  have hh2:(p+q) / 2<q:=by omega
  generalize (p+q) / 2=r at *
  have e4:=vV (P.length+1+r) (by omega)
  have e5:=yU (P.length+1+r) (by omega)
  have l2:(((P.length+1+r:Nat):Int)<(N:Int))=True:=eq_true (by omega)
  obtain⟨y,hy⟩:∃y,B[r]?=some y:=⟨_,List.getElem?_eq_getElem (by omega)⟩
  have gy:((P++x::B++S).map rv)[P.length+1+r]?=some (.slice none 3 (y.map vD)):=by
   rw[List.getElem?_map]
   have:(P++x::B++S)[P.length+1+r]?=some y:=by
    rw[List.append_assoc,List.getElem?_append_right (by omega),show P.length+1+r-P.length=r+1 by omega,List.cons_append,List.getElem?_cons_succ,List.getElem?_append_left (by omega),hy]
   rw[this];rfl
  have hsy:zC noR (y.map vD)=y.map vD:=zL vD (λv=>yW v) _
  have hcm:=yIg (G:=G) m y x (hl y (by simp[List.mem_of_getElem? hy])) (hl x (by simp))
  cases cc:(decide (yZ y x<0))
  ·have hxy:=uK.le_of_not_lt vW (of_decide_eq_false cc)
   refine gw (an9 z1 z2 z3 ta w1 o1 gx gy (an9 hsx hsy lP l1 e0 e1 e2 e3 (an5 e4 e5 l2 hcm cc))) ?_
   exact⟨(p,r),by simp +decide only[go_sem]<;>rfl,⟨hh1,by omega,hlo,λi z hi hz=>uS hxy (zOu hB hy hz hi)⟩,by simp only;omega⟩
  ·have hyx:=of_decide_eq_true cc
   refine gw (an9 z1 z2 z3 ta w1 o1 gx gy (an9 hsx hsy lP l1 e0 e1 e2 e3 (an5 e4 e5 l2 hcm cc))) ?_
   exact⟨(r+1,q),by simp +decide only[go_sem]<;>rfl,⟨by omega,hq,λi z hi hz=>xOs (zOu hB hz hy (by omega)) hyx,hhi⟩,by simp only;omega⟩
 ·have l1:(((P.length+1+p:Nat):Int)<((P.length+1+q:Nat):Int))=False:=eq_false (by omega)
  obtain rfl:p=q:=by omega
  have hsp:=List.take_append_drop p B
  have hpl:(B.take p).length=p:=by simp;omega
  have hlo':∀y∈B.take p,yZ y x<0:=λy hy=>by
   obtain⟨i,hi,e⟩:=List.mem_iff_getElem.1 hy
   rw[hpl] at hi
   exact hlo i y hi (by rw[<-e,List.getElem_take];exact List.getElem?_eq_getElem _)
  have hhi':∀y∈B.drop p,yZ x y<=0:=λy hy=>by
   obtain⟨i,hi,e⟩:=List.mem_iff_getElem.1 hy
   exact hhi (p+i) y (by omega) (by rw[<-e,List.getElem_drop];exact List.getElem?_eq_getElem _)
  have hfin:(B.take p++x::B.drop p).Perm (x::B)/\Asc yZ (B.take p++x::B.drop p):=by
   refine⟨?_,?_⟩
   ·have:=List.perm_middle (a:=x) (l₁:=B.take p) (l₂:=B.drop p)
    rwa [hsp] at this
   ·have hB':=hB
    rw[<-hsp] at hB'
    refine List.pairwise_append.2 ⟨(List.pairwise_append.1 hB').1,List.pairwise_cons.2 ⟨hhi',(List.pairwise_append.1 hB').2.1⟩,λz hz w hw=>?_⟩
    rcases List.mem_cons.1 hw with rfl|hw
    ·exact Int.le_of_lt (hlo' z hz)
    ·exact(List.pairwise_append.1 hB').2.2 z hz w hw
  have e9:P++x::B++S=P++[]++x::(B.take p++(B.drop p++S)):=by
   conv=>lhs;rw[<-hsp]
   simp only[List.append_assoc,List.cons_append,List.append_nil]
  generalize B.take p=B1 at *
  generalize B.drop p=B2 at *
  have hBl:B.length=B1.length+B2.length:=by rw[<-hsp,List.length_append]
  have w9:IntKind.i64.wrap (((P.length+1+p:Nat):Int)-1)=((P.length+p:Nat):Int):=by rw[yD _ (by omega)];omega
  rw[e9]
  refine gw (an7 z1 z2 z3 ta w1 o1 l1) ?_
  refine lpC (T:=List (List Val)×List (List Val)) [0,10,13] (λu=>[(13,.int .i64 ((P.length+u.1.length:Nat):Int))]) (λ_=>[]) (λu=>⟨m.boxes.set id ((P++u.1++x::(u.2++(B2++S))).map rv),m.toks⟩) (λu=>u.1++u.2=B1) (λu=>u.2.length) ([],B1) (by exact rfl) ?_
  rintro ⟨C1,C2⟩ hC
  simp only at hC ⊢
  have hCl:C1.length+C2.length=p:=by rw[<-hpl,<-hC,List.length_append]
  cases C2 with
  |nil=>
   have l2:(((P.length+C1.length:Nat):Int)<((P.length+p:Nat):Int))=False:=eq_false (by simp at hCl;omega)
   refine gw (an8 z1 z2 z3 ta w1 o1 w9 l2) ?_
   simp +decide only[go_sem]
   have hC1:C1=B1:=by simpa using hC
   subst hC1
   exact⟨C1++x::B2,by simp,hfin⟩
  | cons y C2=>
   have hCl':C1.length+(C2.length+1)=p:=by simpa using hCl
   have l2:(((P.length+C1.length:Nat):Int)<((P.length+p:Nat):Int))=True:=eq_true (by omega)
   have w3:=yU (P.length+C1.length) (by omega)
   have b1:(((P.length+C1.length:Nat):Int)<(N:Int))=True:=eq_true (by omega)
   have b2:(((P.length+C1.length+1:Nat):Int)<(N:Int))=True:=eq_true (by omega)
   have b3:(P.length+C1.length+1<=N)=True:=eq_true (by omega)
   have b4:(P.length+C1.length+1+1<=N)=True:=eq_true (by omega)
   have i1:P.length+C1.length=(P++C1).length:=by simp
   have i2:P.length+C1.length+1=(P++C1++[x]).length:=by simp;omega
   have i3:P.length+C1.length+1=(P++C1++[y]).length:=by simp;omega
   have g1:((P++C1++x::y::(C2++(B2++S))).map rv)[P.length+C1.length]?=some (.slice none 3 (x.map vD)):=by
    rw[List.getElem?_map,zHp (A:=P++C1) (x:=x) (B:=y::(C2++(B2++S))) (by simp) i1];rfl
   have g2:((P++C1++x::y::(C2++(B2++S))).map rv)[P.length+C1.length+1]?=some (.slice none 3 (y.map vD)):=by
    rw[List.getElem?_map,zHp (A:=P++C1++[x]) (x:=y) (B:=C2++(B2++S)) (by simp) i2];rfl
   have s1:((P++C1++x::y::(C2++(B2++S))).map rv).set (P.length+C1.length) (.slice none 3 (y.map vD))=(P++C1++y::y::(C2++(B2++S))).map rv:=by
    rw[show (D.slice none 3 (y.map vD))=rv y from rfl,<-List.map_set,zMv (A:=P++C1) (x:=x) (B:=y::(C2++(B2++S))) y (by simp) i1]
   have s2:((P++C1++y::y::(C2++(B2++S))).map rv).set (P.length+C1.length+1) (.slice none 3 (x.map vD))=(P++(C1++[y])++x::(C2++(B2++S))).map rv:=by
    rw[show (D.slice none 3 (x.map vD))=rv x from rfl,<-List.map_set,zMv (A:=P++C1++[y]) (x:=y) (B:=C2++(B2++S)) x (by simp) i3];simp
   have n1:((P++C1++x::y::(C2++(B2++S))).map rv).length=N:=by rw[List.length_map];simp;omega
   have n2:((P++C1++y::y::(C2++(B2++S))).map rv).length=N:=by rw[List.length_map];simp;omega
   refine gw (an9 z1 z2 z3 ta w1 o1 w9 l2 (an9 w3 b1 b2 b3 b4 g1 g2 s1 (an3 s2 n1 n2))) ?_
   rw[show P.length+C1.length+1=P.length+(C1++[y]).length by simp;omega]
   exact⟨(C1++[y],C2),by simp +decide only[go_sem]<;>rfl,by rw[<-hC];simp,by simp⟩
end Go.Eng
