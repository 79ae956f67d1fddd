/- A part of the proof: see the last text. -/
import Derived.Test.YtggiaoaballdgaaGreatDoorJ33
set_option linter.unusedSimpArgs false
set_option linter.unusedVariables false
namespace Go.Eng
open Go Go.Proofs
open Nat renaming reduceAdd → ra, reduceMul → rb, reduceSub → rc
set_option maxRecDepth 20000
set_option maxHeartbeats 32000000
attribute [local irreducible] wpI xU
variable {G:Nat->Option (List D)}
structure Hid (p:Prop):Prop where
 o:p
def xEn (G:Nat->Option (List D)) (m:Mem) (id:Nat) (P A B S:List (List Val)) (n:Nat) (p q r:Nat) (M':List (List Val)):Prop:=∃d,zG (XG G) TT 135 ⟨m.boxes.set id ((P++A++B++S).map rv),m.toks⟩ [.rsl id 0 n 1,.int .i64 (p:Int),.int .i64 (q:Int),.int .i64 (r:Int),.func 43 []]=some (d,⟨m.boxes.set id ((P++M'++S).map rv),m.toks⟩)
theorem zMy {a b c d:Nat} (h:a<b↔c<d):((a:Int)<(b:Int))=(decide (c<d)=true):=by
 rw[decide_eq_true_eq]
 exact propext ⟨λx=>h.1 (by omega),λx=>by have:=h.2 x;omega⟩
theorem xUw (m:Mem) (id:Nat) (hid:id<m.boxes.length) (P A B S:List (List Val)) (hA:Asc yZ A) (hB:Asc yZ B) (hA1:2<=A.length) (hB1:2<=B.length) (hl:∀r∈A++B,r.length<=100000) (hn:(P++A++B++S).length<=100000)
  (ih:∀P' A' B' S':List (List Val),A'≠[]->B'≠[]->Asc yZ A'->Asc yZ B'->A'.length+B'.length<A.length+B.length->(∀r∈A'++B',r.length<=100000)->(P'++A'++B'++S').length<=100000->∃M',xEn G m id P' A' B' S' (P'++A'++B'++S').length P'.length (P'.length+A'.length) (P'.length+A'.length+B'.length) M'/\M'.Perm (A'++B')/\Asc yZ M') :
  ∃M',xEn G m id P A B S (P++A++B++S).length P.length (P.length+A.length) (P.length+A.length+B.length) M'/\M'.Perm (A++B)/\Asc yZ M':=by
 unfold xEn at *
 suffices hh:∃d m',zG (XG G) TT 135 ⟨m.boxes.set id ((P++A++B++S).map rv),m.toks⟩ [.rsl id 0 (P++A++B++S).length 1,.int .i64 (P.length:Int),.int .i64 ((P.length+A.length:Nat):Int),.int .i64 ((P.length+A.length+B.length:Nat):Int),.func 43 []]=some (d,m')/\∃M',m'=⟨m.boxes.set id ((P++M'++S).map rv),m.toks⟩/\M'.Perm (A++B)/\Asc yZ M' by
  obtain⟨d,m',h1,M',rfl,h2⟩:=hh;exact⟨M',⟨d,h1⟩,h2⟩
 have z1:∀X:List D,(m.boxes.set id X)[id]?=some X:=λX=>List.getElem?_set_self hid
 have z2:∀X Y:List D,(m.boxes.set id X).set id Y=m.boxes.set id Y:=λX Y=>List.set_set ..
 have z3:=zHl
 have ta:∀P:Prop,(True/\P)=P:=λP=>propext ⟨λh=>h.2,λh=>⟨trivial,h⟩⟩
 have hN:(P++A++B++S).length=P.length+A.length+B.length+S.length:=by simp;omega
 rw[hN] at hn ⊢
 generalize hNN:P.length+A.length+B.length+S.length=N at *
 obtain⟨h,hh1,hh2⟩:∃h,2*h<=A.length+B.length/\A.length+B.length<=2*h+1:=⟨(A.length+B.length) / 2,by omega,by omega⟩
 have w1:Hid (IntKind.i64.wrap (((P.length+A.length:Nat):Int)-(P.length:Int))=(A.length:Int)):=⟨by rw[yD _ (by omega)];omega⟩
 have o1:((A.length:Int)==1)=false:=by simp;omega
 have w2:Hid (IntKind.i64.wrap (((P.length+A.length+B.length:Nat):Int)-((P.length+A.length:Nat):Int))=(B.length:Int)):=⟨by rw[yD _ (by omega)];omega⟩
 have o2:((B.length:Int)==1)=false:=by simp;omega
 have e0:Hid ((P.length:Int)+((P.length+A.length+B.length:Nat):Int)=((P.length+(P.length+A.length+B.length):Nat):Int)):=⟨by omega⟩
 have e1:=Hid.mk (vV (P.length+(P.length+A.length+B.length)) (by omega))
 have e2:=Hid.mk (zGv (P.length+(P.length+A.length+B.length)) (by omega))
 have e3:=zDp (P.length+(P.length+A.length+B.length))
 have e3':(P.length+(P.length+A.length+B.length)) / 2=P.length+h:=by omega
 rw[e3'] at e3
 replace e3:=Hid.mk e3
 have e4:=Hid.mk (vV (P.length+h) (by omega))
 have w3:Hid (IntKind.i64.wrap (((P.length+h:Nat):Int)+((P.length+A.length:Nat):Int))=((P.length+h+(P.length+A.length):Nat):Int)):=⟨by rw[yD _ (by omega)];omega⟩
 have w4:Hid (IntKind.i64.wrap (((P.length+h+(P.length+A.length):Nat):Int)-1)=((P.length+h+(P.length+A.length)-1:Nat):Int)):=⟨by rw[yD _ (by omega)];omega⟩
 have hS0:∀a b,a=zYv A B h->b=zVt A h->SrI A B h (zYv A B h) (zVt A h) a b:=by
  rintro _ _ rfl rfl
  exact SrI.start A B h (by unfold zYv zVt;split<;>omega)
 refine zO T135 rfl ?_
 unfold Tryz.f135 yXl
 simp only[Option.getD_some]
 simp +decide only[go_sem,ra,rb,rc,z1,z2,z3,ta,w1.1,o1,w2.1,o2,e0.1,e1.1,e2.1,e3.1,e4.1,w3.1,w4.1]
 by_cases hc:h<A.length
 case' pos=>
  have c0:(((P.length+h:Nat):Int)<((P.length+A.length:Nat):Int))=True:=eq_true (by omega)
  have c1:IntKind.i64.wrap (((P.length+h+(P.length+A.length):Nat):Int)-((P.length+A.length+B.length:Nat):Int))=((P.length+(h-B.length):Nat):Int):=by rw[yD _ (by omega)];omega
  refine gw (an9 z1 z2 z3 ta w1.1 o1 w2.1 o2 (an9 e0.1 e1.1 e2.1 e3.1 e4.1 w3.1 w4.1 c0 c1)) ?_
  refine zAw (T:=Nat×Nat) [0,1,2,3,4,18,19,20,21,22] rfl (by simp +decide only[go_sem,ra,rb,rc,z1,z2,z3,ta,w1.1,o1,w2.1,o2,e0.1,e1.1,e2.1,e3.1,e4.1,w3.1,w4.1];exact rfl) (λp=>[(20,.int .i64 ((P.length+p.1:Nat):Int)),(21,.int .i64 ((P.length+p.2:Nat):Int))]) (λ_=>[]) (λ_=>⟨m.boxes.set id ((P++A++B++S).map rv),m.toks⟩) (λp=>SrI A B h (zYv A B h) (zVt A h) p.1 p.2) (λp=>p.2-p.1) (h-B.length,h) (by simp +decide only[go_sem,ra,rb,rc,z1,z2,z3,ta,w1.1,o1,w2.1,o2,e0.1,e1.1,e2.1,e3.1,e4.1,w3.1,w4.1]<;>rfl) (by exact hS0 _ _ (if_pos hc).symm (if_pos hc).symm) ?_
 case' neg=>
  have c0:(((P.length+h:Nat):Int)<((P.length+A.length:Nat):Int))=False:=eq_false (by omega)
  have c1:=trivial
  refine gw (an9 z1 z2 z3 ta w1.1 o1 w2.1 o2 (an8 e0.1 e1.1 e2.1 e3.1 e4.1 w3.1 w4.1 c0)) ?_
  refine zAw (T:=Nat×Nat) [0,1,2,3,4,18,19,20,21,22] rfl (by simp +decide only[go_sem,ra,rb,rc,z1,z2,z3,ta,w1.1,o1,w2.1,o2,e0.1,e1.1,e2.1,e3.1,e4.1,w3.1,w4.1];exact rfl) (λp=>[(20,.int .i64 ((P.length+p.1:Nat):Int)),(21,.int .i64 ((P.length+p.2:Nat):Int))]) (λ_=>[]) (λ_=>⟨m.boxes.set id ((P++A++B++S).map rv),m.toks⟩) (λp=>SrI A B h (zYv A B h) (zVt A h) p.1 p.2) (λp=>p.2-p.1) (0,A.length) (by simp +decide only[go_sem,ra,rb,rc,z1,z2,z3,ta,w1.1,o1,w2.1,o2,e0.1,e1.1,e2.1,e3.1,e4.1,w3.1,w4.1]<;>rfl) (by exact hS0 _ _ (if_neg hc).symm (if_neg hc).symm) ?_
 all_goals
  rintro ⟨lo,hi⟩ hI
  simp only at hI ⊢
  have hlohi:=hI.b
  have hk1:hi<=h/\hi<=A.length:=by have:=hI.c;unfold zVt at this;split at this<;>omega
  have hk0:h<=lo+B.length:=by have:=hI.a;unfold zYv at this;split at this<;>omega
  by_cases hlt:lo<hi
  ·have l1:(((P.length+lo:Nat):Int)<((P.length+hi:Nat):Int))=True:=eq_true (by omega)
   have f0:Hid (((P.length+lo:Nat):Int)+((P.length+hi:Nat):Int)=((P.length+lo+(P.length+hi):Nat):Int)):=⟨by omega⟩
   have f1:=Hid.mk (vV (P.length+lo+(P.length+hi)) (by omega))
   have f2:=Hid.mk (zGv (P.length+lo+(P.length+hi)) (by omega))
   have f3:=zDp (P.length+lo+(P.length+hi))
   rw[show (P.length+lo+(P.length+hi)) / 2=P.length+(lo+hi) / 2 by omega] at f3
   have hr1:lo<=(lo+hi) / 2:=by omega
   have hr2:(lo+hi) / 2<hi:=by omega
   generalize (lo+hi) / 2=r at *
   replace f3:=Hid.mk f3
   have f4:=Hid.mk (vV (P.length+r) (by omega))
   have f5:=Hid.mk (yU (P.length+r) (by omega))
   have f6:Hid (IntKind.i64.wrap (((P.length+h+(P.length+A.length)-1:Nat):Int)-((P.length+r:Nat):Int))=((P.length+A.length+(h-1-r):Nat):Int)):=⟨by rw[yD _ (by omega)];omega⟩
   have l2:(((P.length+r:Nat):Int)<(N:Int))=True:=eq_true (by omega)
   have l3:(((P.length+A.length+(h-1-r):Nat):Int)<(N:Int))=True:=eq_true (by omega)
   obtain⟨x,hx⟩:∃x,A[r]?=some x:=⟨_,List.getElem?_eq_getElem (by omega)⟩
   obtain⟨y,hy⟩:∃y,B[h-1-r]?=some y:=⟨_,List.getElem?_eq_getElem (by omega)⟩
   have gx:((P++A++B++S).map rv)[P.length+r]?=some (.slice none 3 (x.map vD)):=by
    have:(P++A++B++S)[P.length+r]?=some x:=by
     rw[List.append_assoc,List.append_assoc,List.getElem?_append_right (by omega),show P.length+r-P.length=r by omega,List.getElem?_append_left (by omega),hx]
    rw[List.getElem?_map,this];rfl
   have gy:((P++A++B++S).map rv)[P.length+A.length+(h-1-r)]?=some (.slice none 3 (y.map vD)):=by
    have:(P++A++B++S)[P.length+A.length+(h-1-r)]?=some y:=by
     rw[List.append_assoc,List.getElem?_append_right (by rw[List.length_append];omega),show P.length+A.length+(h-1-r)-(P++A).length=h-1-r by rw[List.length_append];omega,List.getElem?_append_left (by omega),hy]
    rw[List.getElem?_map,this];rfl
   have hsx:zC noR (x.map vD)=x.map vD:=zL vD (λv=>yW v) _
   have hsy:zC noR (y.map vD)=y.map vD:=zL vD (λv=>yW v) _
   have hcm:=yIg (G:=G) m y x (hl y (by simp[List.mem_of_getElem? hy])) (hl x (by simp[List.mem_of_getElem? hx]))
   cases cc:(decide (yZ y x<0))
   ·have hs1:=hI.lo hr1 hr2 hx hy (of_decide_eq_false cc)
    refine gw (an9 z1 z2 z3 ta w1.1 o1 w2.1 o2 (an9 e0.1 e1.1 e2.1 e3.1 e4.1 w3.1 w4.1 gx (an9 gy hsx hsy l1 f0.1 f1.1 f2.1 f3.1 (an7 f4.1 f5.1 f6.1 l2 l3 hcm cc)))) ?_
    exact⟨(r+1,hi),by simp +decide only[go_sem,ra,rb,rc,z1,z2,z3,ta,w1.1,o1,w2.1,o2,e0.1,e1.1,e2.1,e3.1,e4.1,w3.1,w4.1,gx,gy,hsx,hsy,l1,f0.1,f1.1,f2.1,f3.1,f4.1,f5.1,f6.1,l2,l3,hcm,cc]<;>rfl,hs1,by simp only;omega⟩
   ·have hs1:=hI.hi hr1 hr2 hx hy (of_decide_eq_true cc)
    refine gw (an9 z1 z2 z3 ta w1.1 o1 w2.1 o2 (an9 e0.1 e1.1 e2.1 e3.1 e4.1 w3.1 w4.1 gx (an9 gy hsx hsy l1 f0.1 f1.1 f2.1 f3.1 (an7 f4.1 f5.1 f6.1 l2 l3 hcm cc)))) ?_
    exact⟨(lo,r),by simp +decide only[go_sem,ra,rb,rc,z1,z2,z3,ta,w1.1,o1,w2.1,o2,e0.1,e1.1,e2.1,e3.1,e4.1,w3.1,w4.1,gx,gy,hsx,hsy,l1,f0.1,f1.1,f2.1,f3.1,f4.1,f5.1,f6.1,l2,l3,hcm,cc]<;>rfl,hs1,by simp only;omega⟩
  ·have l1:(((P.length+lo:Nat):Int)<((P.length+hi:Nat):Int))=False:=eq_false (by omega)
   obtain rfl:lo=hi:=by omega
   obtain⟨hkA,hkh,hkB,hcr⟩:=hI.cut hA hB hh1 hh2
   have aA1:=zYn hA lo
   have aA2:=zYo hA lo
   have aB1:=zYn hB (h-lo)
   have aB2:=zYo hB (h-lo)
   have yy1:(A.take lo).length=lo:=by simp;omega
   have yy2:(A.drop lo).length=A.length-lo:=by simp
   have yy3:(B.take (h-lo)).length=h-lo:=by simp;omega
   have yy4:(B.drop (h-lo)).length=B.length-(h-lo):=by simp
   have hm1:∀r∈A.take lo++B.take (h-lo),r.length<=100000:=λr hr=>hl r (by
    rcases List.mem_append.1 hr with hr|hr
    ·exact List.mem_append_left _ (List.mem_of_mem_take hr)
    ·exact List.mem_append_right _ (List.mem_of_mem_take hr))
   have hm2:∀r∈A.drop lo++B.drop (h-lo),r.length<=100000:=λr hr=>hl r (by
    rcases List.mem_append.1 hr with hr|hr
    ·exact List.mem_append_left _ (List.mem_of_mem_drop hr)
    ·exact List.mem_append_right _ (List.mem_of_mem_drop hr))
   have hmt:=λM1 M2=>yFc (M1:=M1) (M2:=M2) (A:=A) (B:=B) (k:=lo) (j:=h-lo)
   have e9:P++A++B++S=P++A.take lo++A.drop lo++B.take (h-lo)++(B.drop (h-lo)++S):=by
    conv=>lhs;rw[<-List.take_append_drop lo A,<-List.take_append_drop (h-lo) B]
    simp only[List.append_assoc]
   generalize A.take lo=A1 at *
   generalize A.drop lo=A2 at *
   generalize B.take (h-lo)=B1 at *
   generalize B.drop (h-lo)=B2 at *
   have f1:Hid (IntKind.i64.wrap (((P.length+h+(P.length+A.length):Nat):Int)-((P.length+lo:Nat):Int))=((P.length+A.length+(h-lo):Nat):Int)):=⟨by rw[yD _ (by omega)];omega⟩
   have ca1:((P.length:Int)<((P.length+lo:Nat):Int))=(decide (0<lo)=true):=zMy (c:=0) (d:=lo) (by omega)
   have ca2:(((P.length+lo:Nat):Int)<((P.length+A.length:Nat):Int))=(decide (lo<A.length)=true):=zMy (c:=lo) (d:=A.length) (by omega)
   have cb1:(((P.length+A.length:Nat):Int)<((P.length+A.length+(h-lo):Nat):Int))=(decide (lo<h)=true):=zMy (c:=lo) (d:=h) (by omega)
   have cb3:(((P.length+lo:Nat):Int)<((P.length+h:Nat):Int))=(decide (lo<h)=true):=zMy (c:=lo) (d:=h) (by omega)
   have ca3:(((P.length+h:Nat):Int)<((P.length+A.length+(h-lo):Nat):Int))=(decide (lo<A.length)=true):=zMy (c:=lo) (d:=A.length) (by omega)
   have cb2:(((P.length+A.length+(h-lo):Nat):Int)<((P.length+A.length+B.length:Nat):Int))=(decide (h-lo<B.length)=true):=zMy (c:=h-lo) (d:=B.length) (by omega)
   have hx1:¬(decide (0<lo)=false/\decide (lo<h)=false):=by simp;omega
   have hx2:¬(decide (lo<A.length)=false/\decide (h-lo<B.length)=false):=by simp;omega
   have hx3:¬(decide (0<lo)=false/\decide (lo<A.length)=false):=by simp;omega
   have hx4:¬(decide (lo<h)=false/\decide (h-lo<B.length)=false):=by simp;omega
   have na1:(A1≠[])=(decide (0<lo)=true):=by rw[<-List.length_pos_iff,yy1];simp
   have na2:(A2≠[])=(decide (lo<A.length)=true):=by rw[<-List.length_pos_iff,yy2];simp;omega
   have nb1:(B1≠[])=(decide (lo<h)=true):=by rw[<-List.length_pos_iff,yy3];simp;omega
   have nb2:(B2≠[])=(decide (h-lo<B.length)=true):=by rw[<-List.length_pos_iff,yy4];simp;omega
   have hrot:∃d,((A2≠[]/\B1≠[])->zG (XG G) TT 182 ⟨m.boxes.set id ((P++A++B++S).map rv),m.toks⟩ [.rsl id 0 N 1,.int .i64 ((P.length+lo:Nat):Int),.int .i64 ((P.length+A.length:Nat):Int),.int .i64 ((P.length+A.length+(h-lo):Nat):Int),.func 43 []]=some (d,⟨m.boxes.set id ((P++A1++B1++(A2++B2++S)).map rv),m.toks⟩))/\(¬(A2≠[]/\B1≠[])->P++A++B++S=P++A1++B1++(A2++B2++S)):=by
    by_cases g:A2≠[]/\B1≠[]
    ·obtain⟨d,hr⟩:=yZb (G:=G) m id hid (P++A1) A2 B1 (B2++S) g.1 g.2 (by rw[<-e9,hN];exact hn) (.func 43 [])
     rw[<-e9,hN,List.length_append,yy1,yy2,yy3,show P.length+lo+(A.length-lo)=P.length+A.length by omega,show P++A1++B1++A2++(B2++S)=P++A1++B1++(A2++B2++S) by simp] at hr
     exact⟨d,λ_=>hr,λe=>absurd g e⟩
    ·refine⟨.nil,λe=>absurd e g,λ_=>?_⟩
     rw[e9]
     by_cases g1:A2=[]
     ·subst g1;simp
     ·have g2:B1=[]:=Classical.byContradiction λe=>g ⟨g1,e⟩
      subst g2;simp
   have hlef:∃(M1:List (List Val)),M1.Perm (A1++B1)/\Asc yZ M1/\∃d,((A1≠[]/\B1≠[])->zG (XG G) TT 135 ⟨m.boxes.set id ((P++A1++B1++(A2++B2++S)).map rv),m.toks⟩ [.rsl id 0 N 1,.int .i64 (P.length:Int),.int .i64 ((P.length+lo:Nat):Int),.int .i64 ((P.length+h:Nat):Int),.func 43 []]=some (d,⟨m.boxes.set id ((P++M1++A2++B2++S).map rv),m.toks⟩))/\(¬(A1≠[]/\B1≠[])->P++A1++B1++(A2++B2++S)=P++M1++A2++B2++S):=by
    by_cases g:A1≠[]/\B1≠[]
    ·have u1:=List.length_pos_iff.2 g.1
     have u2:=List.length_pos_iff.2 g.2
     obtain⟨M1,⟨d,hr⟩,hp,ha⟩:=ih P A1 B1 (A2++B2++S) g.1 g.2 aA1 aB1 (by omega) hm1 (by simp;omega)
     rw[show (P++A1++B1++(A2++B2++S)).length=N by simp;omega,yy1,yy3,show P.length+lo+(h-lo)=P.length+h by omega,show P++M1++(A2++B2++S)=P++M1++A2++B2++S by simp] at hr
     exact⟨M1,hp,ha,d,λ_=>hr,λe=>absurd g e⟩
    ·refine⟨A1++B1,.refl _,?_,.nil,λe=>absurd e g,λ_=>by simp⟩
     by_cases g1:A1=[]
     ·subst g1;simpa using aB1
     ·have g2:B1=[]:=Classical.byContradiction λe=>g ⟨g1,e⟩
      subst g2;simpa using aA1
   obtain⟨M1,hp1,ha1,d2,hr2,hr2'⟩:=hlef
   have hM1:M1.length=h:=by rw[hp1.length_eq,List.length_append,yy1,yy3];omega
   have hrig:∃(M2:List (List Val)),M2.Perm (A2++B2)/\Asc yZ M2/\∃d,((A2≠[]/\B2≠[])->zG (XG G) TT 135 ⟨m.boxes.set id ((P++M1++A2++B2++S).map rv),m.toks⟩ [.rsl id 0 N 1,.int .i64 ((P.length+h:Nat):Int),.int .i64 ((P.length+A.length+(h-lo):Nat):Int),.int .i64 ((P.length+A.length+B.length:Nat):Int),.func 43 []]=some (d,⟨m.boxes.set id ((P++(M1++M2)++S).map rv),m.toks⟩))/\(¬(A2≠[]/\B2≠[])->P++M1++A2++B2++S=P++(M1++M2)++S):=by
    by_cases g:A2≠[]/\B2≠[]
    ·have u1:=List.length_pos_iff.2 g.1
     have u2:=List.length_pos_iff.2 g.2
     obtain⟨M2,⟨d,hr⟩,hp,ha⟩:=ih (P++M1) A2 B2 S g.1 g.2 aA2 aB2 (by omega) hm2 (by simp;omega)
     rw[show (P++M1++A2++B2++S).length=N by simp;omega,List.length_append,hM1,yy2,yy4,show P.length+h+(A.length-lo)=P.length+A.length+(h-lo) by omega,show P.length+A.length+(h-lo)+(B.length-(h-lo))=P.length+A.length+B.length by omega,show P++M1++M2++S=P++(M1++M2)++S by simp] at hr
     exact⟨M2,hp,ha,d,λ_=>hr,λe=>absurd g e⟩
    ·refine⟨A2++B2,.refl _,?_,.nil,λe=>absurd e g,λ_=>by simp⟩
     by_cases g1:A2=[]
     ·subst g1;simpa using aB2
     ·have g2:B2=[]:=Classical.byContradiction λe=>g ⟨g1,e⟩
      subst g2;simpa using aA2
   obtain⟨M2,hp2,ha2,d3,hr3,hr3'⟩:=hrig
   obtain⟨d1,hr1,hr1'⟩:=hrot
   have hfin:=hmt M1 M2 hp1 hp2 ha1 ha2 hcr
   rw[na2,nb1] at hr1 hr1'
   rw[na1,nb1] at hr2 hr2'
   rw[na2,nb2] at hr3 hr3'
   clear hcr hmt hp1 hp2 ha1 ha2 ih hS0 hI aA1 aA2 aB1 aB2 hm1 hm2 na1 na2 nb1 nb2 hA hB hl hM1 hlohi hk0 hk1 hkA hkh hkB hA1 hB1 hh1 hh2 hlt hc
   generalize decide (0<lo)=a1 at *
   generalize decide (lo<A.length)=a2 at *
   generalize decide (lo<h)=c3 at *
   generalize decide (h-lo<B.length)=c4 at *
   cases a1<;>cases a2<;>cases c3<;>cases c4<;>first|(exact absurd ⟨rfl,rfl⟩ hx1)|(exact absurd ⟨rfl,rfl⟩ hx2)|(exact absurd ⟨rfl,rfl⟩ hx3)|(exact absurd ⟨rfl,rfl⟩ hx4)|skip
   all_goals
    clear hx1 hx2 hx3 hx4
    first|(replace hr1:=hr1 ⟨rfl,rfl⟩)|(rw[hr1' (by decide)];replace hr1:=trivial)
    first|(replace hr2:=hr2 ⟨rfl,rfl⟩)|((first|rw[hr2' (by decide)] at hr1|rw[hr2' (by decide)]);replace hr2:=trivial)
    first|(replace hr3:=hr3 ⟨rfl,rfl⟩)|((first|rw[hr3' (by decide)] at hr2|rw[hr3' (by decide)] at hr1|rw[hr3' (by decide)]);replace hr3:=trivial)
    clear hr1' hr2' hr3'
    refine gw (an9 z1 z2 z3 ta w1.1 o1 w2.1 o2 (an9 e0.1 e1.1 e2.1 e3.1 e4.1 w3.1 w4.1 l1 (an9 f1.1 ca1 ca2 cb1 cb3 ca3 cb2 hr1 (an hr2 hr3)))) ?_
    simp +decide only[go_sem,ra,rb,rc,z1,z2,z3,ta,w1.1,o1,w2.1,o2,e0.1,e1.1,e2.1,e3.1,e4.1,w3.1,w4.1]
    exact⟨M1++M2,by trivial,hfin⟩
theorem yCj (m:Mem) (id:Nat) (hid:id<m.boxes.length):∀(n:Nat) (P A B S:List (List Val)),A.length+B.length<n->A≠[]->B≠[]->Asc yZ A->Asc yZ B->(∀r∈A++B,r.length<=100000)->(P++A++B++S).length<=100000->∃M',xEn G m id P A B S (P++A++B++S).length P.length (P.length+A.length) (P.length+A.length+B.length) M'/\M'.Perm (A++B)/\Asc yZ M'
 |0,P,A,B,S,h,_,_,_,_,_,_=>absurd h (Nat.not_lt_zero _)
 | n+1,P,A,B,S,h,hA,hB,aA,aB,hl,hn=>by
  have u1:=List.length_pos_iff.2 hA
  have u2:=List.length_pos_iff.2 hB
  by_cases h1:A.length=1
  ·obtain⟨x,rfl⟩:=List.length_eq_one_iff.1 h1
   have e:P++[x]++B++S=P++x::B++S:=by simp
   obtain⟨d,M',hc,hp,ha⟩:=xUv (G:=G) m id hid P B S x aB (by simpa using hl) (by rw[<-e];exact hn)
   refine⟨M',⟨d,?_⟩,by simpa using hp,ha⟩
   rw[e];exact hc
  ·by_cases h2:B.length=1
   ·obtain⟨x,rfl⟩:=List.length_eq_one_iff.1 h2
    have e:P++A++[x]++S=P++A++x::S:=by simp
    obtain⟨d,M',hc,hp,ha⟩:=xUu (G:=G) m id hid P A S x aA h1 (λr hr=>hl r (by simp at hr ⊢;rcases hr with h|h;exact .inr h;exact .inl h)) (by rw[<-e];exact hn)
    refine⟨M',⟨d,?_⟩,hp,ha⟩
    rw[e];exact hc
   ·exact xUw m id hid P A B S aA aB (by omega) (by omega) hl hn λP' A' B' S' a b c d e f g=>yCj m id hid n P' A' B' S' (by omega) a b c d f g
end Go.Eng
