/- A part of the proof: see the last text. -/
import Derived.Test.YtggiaoaballdgaaGreatDoorJ12
import Derived.Test.YtggiaoaballdgaaGreatDoorR4MrgG
set_option linter.unusedSimpArgs false
set_option linter.unusedVariables false
namespace Go.Eng
open Go
def Srt (bs:Nat) (L:List (List Val)):Prop:=∀j,Asc yZ ((L.drop (j*bs)).take bs)
theorem yDc (bs:Nat):Srt bs []:=λj=>by simp
theorem zKb {bs j:Nat} {P M:List (List Val)} (h:Srt bs P) (hP:P.length=j*bs) (hM:Asc yZ M) (hl:M.length<=bs):Srt bs (P++M):=by
 intro i
 rcases Nat.lt_trichotomy i j with hi|hi|hi
 ·have h1:(i+1)*bs<=j*bs:=Nat.mul_le_mul_right _ hi
  rw[Nat.succ_mul] at h1
  rw[List.drop_append,List.take_append_of_le_length (by rw[List.length_drop];omega)]
  exact h i
 ·subst hi
  rw[List.drop_append,hP,Nat.sub_self,List.drop_zero,List.drop_eq_nil_of_le (by omega),List.nil_append,List.take_of_length_le hl]
  exact hM
 ·have h1:(j+1)*bs<=i*bs:=Nat.mul_le_mul_right _ hi
  rw[Nat.succ_mul] at h1
  rw[List.drop_eq_nil_of_le (by rw[List.length_append];omega)]
  simp
theorem zFr {bs:Nat} {R:List (List Val)} (h:Srt bs R):Asc yZ (R.take bs):=by
 have:=h 0
 rwa [Nat.zero_mul,List.drop_zero] at this
theorem zOz {bs:Nat} {R:List (List Val)} (h:Srt bs R):Srt bs (R.drop bs):=by
 intro j
 have:=h (j+1)
 rwa [List.drop_drop,show bs+j*bs=(j+1)*bs by rw[Nat.succ_mul];omega]
theorem zTr {bs:Nat} {L:List (List Val)} (h:Srt bs L) (hl:L.length<=bs):Asc yZ L:=by
 have:=zFr h
 rwa [List.take_of_length_le hl] at this
theorem yJh (k:Nat) {R:List (List Val)} (h:k<=R.length):∃A B,R=A++B/\A=R.take k/\B=R.drop k/\A.length=k:=⟨R.take k,R.drop k,(List.take_append_drop ..).symm,rfl,rfl,by simp;omega⟩
end Go.Eng
namespace Go.Eng
open Go Go.Proofs
open Nat renaming reduceAdd → ra, reduceMul → rb, reduceSub → rc
set_option maxRecDepth 20000
set_option maxHeartbeats 32000000
attribute [local irreducible] wpI xU
variable {G:Nat->Option (List D)}
theorem yCc {a b c:Nat} (h:a+b=c) (hc:c<4611686018427387904):IntKind.i64.wrap ((a:Int)+(b:Int))=(c:Int):=by
 subst h;rw[yD _ (by omega)];omega
theorem yYt (m:Mem) (id:Nat) (hid:id<m.boxes.length) (L:List (List Val)) (hl:∀r∈L,r.length<=100000) (hn:L.length<=1000) :
  ∃d L',zG (XG G) TT 78 ⟨m.boxes.set id (L.map rv),m.toks⟩ [.rsl id 0 L.length 1,.int .i64 (L.length:Int),.func 43 []]=some (d,⟨m.boxes.set id (L'.map rv),m.toks⟩)/\L'.Perm L/\Asc yZ L':=by
 suffices hh:∃d m',zG (XG G) TT 78 ⟨m.boxes.set id (L.map rv),m.toks⟩ [.rsl id 0 L.length 1,.int .i64 (L.length:Int),.func 43 []]=some (d,m')/\∃L',m'=⟨m.boxes.set id (L'.map rv),m.toks⟩/\L'.Perm L/\Asc yZ L' by
  obtain⟨d,m',h1,M',rfl,h2⟩:=hh;exact⟨d,M',h1,h2⟩
 have ta:∀P:Prop,(True/\P)=P:=λP=>propext ⟨λh=>h.2,λh=>⟨trivial,h⟩⟩
 have hlp:∀L':List (List Val),L'.Perm L->∀r∈L',r.length<=100000:=λL' h r hr=>hl r (h.mem_iff.1 hr)
 have hln:∀L':List (List Val),L'.Perm L->L'.length=L.length:=λL' h=>h.length_eq
 refine zO T78 rfl ?_
 unfold Tryz.f78 F78
 simp only[Option.getD_some]
 generalize hN:L.length=N at *
 simp +decide only[go_sem,ra]
 refine gw ta ?_
 refine lpC (T:=List (List Val)×List (List Val)) [0,1,2,6,7,8] (λp=>[(7,.int .i64 (p.1.length:Int)),(8,.int .i64 ((p.1.length+20:Nat):Int))]) (λ_=>[]) (λp=>⟨m.boxes.set id ((p.1++p.2).map rv),m.toks⟩) (λp=>(p.1++p.2).Perm L/\(∃j,p.1.length=j*20)/\Srt 20 p.1) (λp=>p.2.length) ([],L) (by exact⟨.refl _,⟨0,rfl⟩,yDc 20⟩) ?_
 rintro ⟨P,R⟩ ⟨hp,⟨j,hj⟩,hs⟩
 simp only at hp hj hs ⊢
 have hPR:=hln _ hp
 rw[List.length_append] at hPR
 by_cases h20:20<=R.length
 ·have c1:(((P.length+20:Nat):Int)<=(N:Int))=True:=eq_true (by omega)
  obtain⟨M,S,rfl,_,_,hM⟩:=yJh 20 h20
  obtain⟨d,M',hc,hpm,hasc⟩:=yNi (G:=G) m id hid P M S (λr hr=>hlp _ hp r (by simpa using hr)) (by simp at hPR ⊢;omega)
  have hML:=hpm.length_eq
  have e1:P++M++S=P++(M++S):=by simp
  have e2:P++M'++S=(P++M')++S:=rfl
  have e3:(P++(M++S)).length=N:=by rw[List.length_append];exact hPR
  rw[e1,e3,hM] at hc
  have w1:=yCc (a:=P.length+20) (b:=20) rfl (by omega)
  have w1':IntKind.i64.wrap (((P.length+20:Nat):Int)+20)=((P.length+20+20:Nat):Int):=w1
  refine gw (an4 ta c1 hc w1') ?_
  have hlen:P.length+20=(P++M').length:=by rw[List.length_append];omega
  rw[hlen]
  refine⟨(P++M',S),by simp +decide only[go_sem]<;>rfl,⟨?_,⟨j+1,?_⟩,zKb hs hj hasc (by omega)⟩,by simp;omega⟩
  ·have:(P++M'++S).Perm (P++(M++S)):=by
    rw[List.append_assoc];exact((hpm.append_right S).append_left P)
   exact this.trans hp
  ·show (P++M').length=_
   rw[<-hlen,hj,Nat.succ_mul]
 ·have c1:(((P.length+20:Nat):Int)<=(N:Int))=False:=eq_false (by omega)
  obtain⟨d,M',hc,hpm,hasc⟩:=yNi (G:=G) m id hid P R [] (λr hr=>hlp _ hp r (by simpa using hr)) (by simp;omega)
  have hML:=hpm.length_eq
  rw[List.append_nil,List.append_nil,List.length_append,hPR] at hc
  have hL':Srt 20 (P++M'):=zKb hs hj hasc (by omega)
  have hp':(P++M').Perm L:=(hpm.append_left P).trans hp
  have hLn':=hln _ hp'
  clear hj hs hpm hasc
  generalize P++M'=L1 at *
  refine gw (an3 ta c1 hc) ?_
  refine lpC (T:=Nat×List (List Val)) [0,1,2,6] (λp=>[(6,.int .i64 (p.1:Int))]) (λ_=>[]) (λp=>⟨m.boxes.set id (p.2.map rv),m.toks⟩) (λp=>1<=p.1/\p.1<=4000/\p.2.Perm L/\Srt p.1 p.2) (λp=>5000-p.1) (20,L1) (by exact⟨by show 1<=20;omega,by show 20<=4000;omega,hp',hL'⟩) ?_
  rintro ⟨bs,L2⟩ ⟨hb1,hb2,hp2,hs2⟩
  simp only at hb1 hb2 hp2 hs2 ⊢
  have hl2:=hln _ hp2
  by_cases hbn:bs<N
  ·have c2:((bs:Int)<(N:Int))=True:=eq_true (by omega)
   have w2:IntKind.i64.wrap (2*(bs:Int))=((2*bs:Nat):Int):=by rw[yD _ (by omega)];omega
   refine gw (an3 ta c2 w2) ?_
   refine lpC (T:=List (List Val)×List (List Val)) [0,1,2,6,7,8] (λp=>[(7,.int .i64 (p.1.length:Int)),(8,.int .i64 ((p.1.length+2*bs:Nat):Int))]) (λ_=>[]) (λp=>⟨m.boxes.set id ((p.1++p.2).map rv),m.toks⟩) (λp=>(p.1++p.2).Perm L/\(∃j,p.1.length=j*(2*bs))/\Srt (2*bs) p.1/\Srt bs p.2) (λp=>p.2.length) ([],L2) (by exact⟨hp2,⟨0,by simp⟩,yDc _,hs2⟩) ?_
   rintro ⟨P,R⟩ ⟨hp,⟨j,hj⟩,hs,hr⟩
   simp only at hp hj hs hr ⊢
   have hPR:=hln _ hp
   rw[List.length_append] at hPR
   have w3:IntKind.i64.wrap ((P.length:Int)+(bs:Int))=((P.length+bs:Nat):Int):=yCc rfl (by omega)
   by_cases h20:2*bs<=R.length
   ·have c3:(((P.length+2*bs:Nat):Int)<=(N:Int))=True:=eq_true (by omega)
    have hA:=zFr hr
    have hr1:=zOz hr
    have hB:=zFr hr1
    have hS:=zOz hr1
    have e0:R=R.take bs++((R.drop bs).take bs++(R.drop bs).drop bs):=by rw[List.take_append_drop,List.take_append_drop]
    have lA:(R.take bs).length=bs:=by simp;omega
    have lB:((R.drop bs).take bs).length=bs:=by simp;omega
    generalize R.take bs=A at *
    generalize (R.drop bs).take bs=B at *
    generalize (R.drop bs).drop bs=S at *
    have e1:P++R=P++A++B++S:=by rw[e0];simp
    have hlS:R.length=bs+bs+S.length:=by rw[e0];simp;omega
    obtain⟨M',⟨d,hc⟩,hpm,hasc⟩:=yCj (G:=G) m id hid _ P A B S (Nat.lt_succ_self _) (λe=>by rw[e] at lA;simp at lA;omega) (λe=>by rw[e] at lB;simp at lB;omega) hA hB (λr hr=>hlp _ hp r (by
     rw[e1];simp only[List.mem_append] at hr ⊢
     rcases hr with h|h
     ·exact .inl (.inl (.inr h))
     ·exact .inl (.inr h))) (by rw[<-e1,List.length_append];omega)
    have hML:=hpm.length_eq
    rw[List.length_append,lA,lB] at hML
    rw[<-e1,List.length_append,hPR,lA,lB,show P.length+bs+bs=P.length+2*bs by omega] at hc
    have w4:IntKind.i64.wrap (((P.length+2*bs:Nat):Int)+((2*bs:Nat):Int))=((P.length+2*bs+2*bs:Nat):Int):=yCc rfl (by omega)
    refine gw (an6 ta c3 w3 hc w2 w4) ?_
    have hlen:P.length+2*bs=(P++M').length:=by rw[List.length_append];omega
    rw[hlen]
    refine⟨(P++M',S),by simp +decide only[go_sem]<;>rfl,⟨?_,⟨j+1,?_⟩,zKb hs hj hasc (by omega),hS⟩,by simp only;omega⟩
    ·have:(P++M'++S).Perm (P++R):=by
      rw[e1]
      have h1:=(hpm.append_left P).append_right S
      simpa using h1
     exact this.trans hp
    ·show (P++M').length=_
     rw[<-hlen,hj]
     exact(Nat.succ_mul _ _).symm
   ·have c3:(((P.length+2*bs:Nat):Int)<=(N:Int))=False:=eq_false (by omega)
    have w5:IntKind.i64.wrap ((bs:Int)*2)=((bs*2:Nat):Int):=by rw[yD _ (by omega)];omega
    by_cases hm:bs<R.length
    ·have c4:(((P.length+bs:Nat):Int)<(N:Int))=True:=eq_true (by omega)
     have hA:=zFr hr
     have hB:=zTr (zOz hr) (by rw[List.length_drop];omega)
     have e0:R=R.take bs++R.drop bs:=(List.take_append_drop ..).symm
     have lA:(R.take bs).length=bs:=by simp;omega
     have lB:(R.drop bs).length=R.length-bs:=List.length_drop ..
     generalize R.take bs=A at *
     generalize R.drop bs=B at *
     have e1:P++R=P++A++B++[]:=by rw[e0];simp
     obtain⟨M',⟨d,hc⟩,hpm,hasc⟩:=yCj (G:=G) m id hid _ P A B [] (Nat.lt_succ_self _) (λe=>by rw[e] at lA;simp at lA;omega) (λe=>by rw[e] at lB;simp at lB;omega) hA hB (λr hr=>hlp _ hp r (by
      rw[e0];simp only[List.mem_append] at hr ⊢
      exact .inr hr)) (by rw[<-e1,List.length_append];omega)
     have hML:=hpm.length_eq
     rw[List.length_append,lA,lB] at hML
     rw[<-e1,List.length_append,hPR,lA,lB,show P.length+bs+(R.length-bs)=N by omega,List.append_nil] at hc
     refine gw (an6 ta c3 w3 c4 hc w5) ?_
     refine⟨(bs*2,P++M'),by simp +decide only[go_sem]<;>rfl,⟨by simp only;omega,by simp only;omega,?_,?_⟩,by simp only;omega⟩
     ·have:(P++M').Perm (P++R):=by rw[e0];exact hpm.append_left P
      exact this.trans hp
     ·show Srt (bs*2) (P++M')
      rw[Nat.mul_comm]
      exact zKb hs hj hasc (by omega)
    ·have c4:(((P.length+bs:Nat):Int)<(N:Int))=False:=eq_false (by omega)
     refine gw (an5 ta c3 w3 c4 w5) ?_
     refine⟨(bs*2,P++R),by simp +decide only[go_sem]<;>rfl,⟨by simp only;omega,by simp only;omega,hp,?_⟩,by simp only;omega⟩
     show Srt (bs*2) (P++R)
     rw[Nat.mul_comm]
     exact zKb hs hj (zTr hr (by omega)) (by omega)
  ·have c2:((bs:Int)<(N:Int))=False:=eq_false (by omega)
   refine gw (an ta c2) ?_
   simp +decide only[go_sem]
   exact⟨L2,by trivial,hp2,zTr hs2 (by omega)⟩
theorem yYw (m:Mem) (id:Nat) (L:List (List Val)) (hb:m.boxes[id]?=some (L.map rv)) (hl:∀r∈L,r.length<=100000) (hn:L.length<=1000) :
  ∃d L',zG (XG G) TT 42 m [.rsl id 0 L.length 1,.func 43 []]=some (d,⟨m.boxes.set id (L'.map rv),m.toks⟩)/\L'.Perm L/\Asc yZ L':=by
 have hid:=(List.getElem?_eq_some_iff.1 hb).1
 obtain⟨d,L',h,hp,ha⟩:=yYt (G:=G) m id hid L hl hn
 have hm:(⟨m.boxes.set id (L.map rv),m.toks⟩:Mem)=m:=by
  have:m.boxes.set id (L.map rv)=m.boxes:=by
   obtain⟨h1,h2⟩:=List.getElem?_eq_some_iff.1 hb
   rw[<-h2,List.set_getElem_self]
  rw[this]
 rw[hm] at h
 suffices hh:∃d m',zG (XG G) TT 42 m [.rsl id 0 L.length 1,.func 43 []]=some (d,m')/\m'=⟨m.boxes.set id (L'.map rv),m.toks⟩ by
  obtain⟨d',m',h1,rfl⟩:=hh;exact⟨d',L',h1,hp,ha⟩
 refine zO T42 rfl ?_
 unfold Tryz.f42 F42
 simp only[Option.getD_some]
 simp +decide only[go_sem,ra]
 refine gw h ?_
 simp +decide only[go_sem]
theorem zZs (m:Mem):∃d,zG (XG G) TT 42 m [.nil,.func 43 []]=some (d,m):=by
 have h1:∃d,zG (XG G) TT 134 m [.nil,.int .i64 0,.int .i64 ((0:Nat):Int),.func 43 []]=some (d,m):=by
  suffices hh:∃d m',zG (XG G) TT 134 m [.nil,.int .i64 0,.int .i64 ((0:Nat):Int),.func 43 []]=some (d,m')/\m'=m by
   obtain⟨d',m',h1,rfl⟩:=hh;exact⟨d',h1⟩
  refine zO T134 rfl ?_
  unfold Tryz.f134 xEt
  simp only[Option.getD_some]
  simp +decide only[go_sem,ra]
  refine gw trivial ?_
  refine lpC (T:=Unit) [0,1,2,3,8] (λ_=>[]) (λ_=>[]) (λ_=>m) (λ_=>True) (λ_=>0) () (by simp) ?_
  rintro _ _
  refine gw trivial ?_
  simp +decide only[go_sem]
 obtain⟨d1,h1⟩:=h1
 have h2:∃d,zG (XG G) TT 78 m [.nil,.int .i64 ((0:Nat):Int),.func 43 []]=some (d,m):=by
  suffices hh:∃d m',zG (XG G) TT 78 m [.nil,.int .i64 ((0:Nat):Int),.func 43 []]=some (d,m')/\m'=m by
   obtain⟨d',m',h1,rfl⟩:=hh;exact⟨d',h1⟩
  refine zO T78 rfl ?_
  unfold Tryz.f78 F78
  simp only[Option.getD_some]
  simp +decide only[go_sem,ra]
  refine gw h1 ?_
  refine lpC (T:=Unit) [0,1,2,6,7,8] (λ_=>[]) (λ_=>[]) (λ_=>m) (λ_=>True) (λ_=>0) () (by simp) ?_
  rintro _ _
  refine gw h1 ?_
  refine lpC (T:=Unit) [0,1,2,6] (λ_=>[]) (λ_=>[]) (λ_=>m) (λ_=>True) (λ_=>0) () (by simp) ?_
  rintro _ _
  refine gw h1 ?_
  simp +decide only[go_sem]
 obtain⟨d2,h2⟩:=h2
 suffices hh:∃d m',zG (XG G) TT 42 m [.nil,.func 43 []]=some (d,m')/\m'=m by
  obtain⟨d',m',h1,rfl⟩:=hh;exact⟨d',h1⟩
 refine zO T42 rfl ?_
 unfold Tryz.f42 F42
 simp only[Option.getD_some]
 simp +decide only[go_sem,ra]
 refine gw h2 ?_
 simp +decide only[go_sem]
end Go.Eng
