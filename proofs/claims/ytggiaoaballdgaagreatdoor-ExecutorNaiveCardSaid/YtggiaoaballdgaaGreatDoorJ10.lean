/- A part of the proof: see the last text. -/
import Derived.Test.YtggiaoaballdgaaGreatDoorJ9
set_option linter.unusedSimpArgs false
set_option linter.unusedVariables false
namespace Go.Eng
open Go Go.Proofs
open Nat renaming reduceAdd → ra, reduceMul → rb, reduceSub → rc
set_option maxRecDepth 20000
set_option maxHeartbeats 32000000
attribute [local irreducible] wpI xU
theorem xOt {n:Int} (h:loI n=true):upI n=false:=by
 simp only[loI,upI,Bool.and_eq_true,decide_eq_true_eq,Bool.and_eq_false_iff,decide_eq_false_iff_not] at *
 omega
theorem xPd {n:Int} (h:dgI n=true):upI n=false:=by
 simp only[dgI,upI,Bool.and_eq_true,decide_eq_true_eq,Bool.and_eq_false_iff,decide_eq_false_iff_not] at *
 omega
theorem xOo {b:UInt8} (h:nmB b=true):upI b.toNat=false:=by
 simp only[nmB,nmI,Bool.or_eq_true,beq_iff_eq] at h
 rcases h with(h|h)|h
 ·exact xOt h
 ·exact xPd h
 ·rw[h];rfl
theorem yJy {b:UInt8}:yBo b=b↔upI b.toNat=false:=by
 unfold yBo
 cases h:upI b.toNat
 ·simp
 ·simp only[cond_true,Bool.true_eq_false,iff_false]
  intro e
  simp only[upI,Bool.and_eq_true,decide_eq_true_eq] at h
  have h2:(b+32).toNat=b.toNat+32:=by rw[UInt8.toNat_add];show (b.toNat+32) % 256=_;omega
  rw[e] at h2
  omega
def zZa (s:Str):Bool:=match s with
 |[]=>false
 |b::r=>(decide ((b::r).length<=24)&&loI b.toNat)&&((b::r).all nmB&&!decide ((b::r).map yBa∈kwL))
theorem ySb (K t:Str) (hK:K.length<=1000) (ht:t.length<=1000):∃v,zA (XG GK) TT 281 [.str K,.str t]=some v/\∃b,v=.bool b/\(b=true↔∃i,i+t.length<=K.length/\(K.take (i+t.length)).drop i=t):=by
 refine zS T281 rfl (by simp only[go_sem]) ?_
 unfold Tryz.f281 xIb
 simp only[Option.getD_some]
 simp +decide only[go_sem,ra]
 refine gw trivial ?_
 refine lpC (T:=Nat) [0,1,5] (λk=>[(5,.int .i64 (k:Int))]) (λ_=>[]) (λ_=>⟨[],[]⟩) (λk=>k<=K.length+1/\∀i,i<k->¬(i+t.length<=K.length/\(K.take (i+t.length)).drop i=t)) (λk=>K.length+1-k) 0 (by simp) ?_
 rintro k ⟨hk,hP⟩
 have w1:IntKind.i64.wrap ((k:Int)+(t.length:Int))=((k+t.length:Nat):Int):=by rw[yD _ (by omega)];omega
 have w2:=yU k (by omega)
 by_cases h:k+t.length<=K.length
 ·have h1:(((k+t.length:Nat):Int)<=(K.length:Int))=True:=eq_true (by omega)
  have h2:((k:Int)<=((k+t.length:Nat):Int))=True:=eq_true (by omega)
  refine gw (an4 w1 w2 h1 h2) ?_
  cases c:((K.take (k+t.length)).drop k==t)
  ·refine gw (an5 w1 w2 h1 h2 c) ?_
   refine⟨k+1,by simp +decide only[go_sem]<;>rfl,⟨by omega,λi hi=>?_⟩,by omega⟩
   by_cases e:i=k
   ·subst e
    rintro ⟨_,h4⟩
    rw[h4,beq_self_eq_true] at c
    cases c
   ·exact hP i (by omega)
  ·refine gw (an5 w1 w2 h1 h2 c) ?_
   simp +decide only[go_sem]
   exact⟨_,rfl,⟨λ_=>⟨k,h,eq_of_beq c⟩,λ_=>rfl⟩⟩
 ·have h1:(((k+t.length:Nat):Int)<=(K.length:Int))=False:=eq_false (by omega)
  refine gw (an3 w1 w2 h1) ?_
  simp +decide only[go_sem]
  refine⟨_,rfl,⟨λh=>by(first|cases h|simp at h),λ⟨i,h2,h3⟩=>?_⟩⟩
  exact absurd ⟨h2,h3⟩ (hP i (by omega))
def KS :Str:=[32,97,110,100,32,97,115,32,97,115,99,32,98,101,103,105,110,32,98,101,116,119,101,101,110,32,98,121,32,99,104,101,99,107,32,99,111,109,109,105,116,32,99,111,117,110,116,32,99,114,101,97,116,101,32,100,101,108,101,116,101,32,100,101,115,99,32,102,111,114,101,105,103,110,32,102,114,111,109,32,103,114,111,117,112,32,105,110,32,105,110,115,101,114,116,32,105,110,116,101,103,101,114,32,105,110,116,111,32,105,115,32,106,111,105,110,32,107,101,121,32,108,101,110,103,116,104,32,108,105,107,101,32,108,105,109,105,116,32,109,97,120,32,109,105,110,32,110,111,116,32,110,117,108,108,32,111,110,32,111,114,32,111,114,100,101,114,32,112,114,105,109,97,114,121,32,114,101,102,101,114,101,110,99,101,115,32,114,101,108,101,97,115,101,32,114,111,108,108,98,97,99,107,32,115,97,118,101,112,111,105,110,116,32,115,101,108,101,99,116,32,115,101,116,32,115,117,109,32,116,97,98,108,101,32,116,101,120,116,32,116,111,32,117,110,105,113,117,101,32,117,112,100,97,116,101,32,118,97,108,117,101,115,32,119,104,101,114,101,32]
theorem xOv :zA (XG GK) TT 282 []=some (.str KS):=by
 refine zD T282 rfl (by simp only[go_sem]) ?_
 unfold Tryz.f282 xIa
 simp only[Option.getD_some]
 simp +decide only[go_sem]
 refine gw trivial ?_
 simp +decide only[go_sem]
 rfl
def zEa (ws:List Str):Str:=(ws.map λw=>(32:UInt8)::w).flatten++[32]
theorem xPq :KS=zEa (kwL.map λw=>w.map yBo):=by kernel_rfl
theorem zLy :∀(s w:Str) (a b:Str),(∀x∈s,x≠32)->(∀x∈w,x≠32)->s++32::a=w++32::b->s=w
 |[],[],_,_,_,_,_=>rfl
 |[],y::w,a,b,_,hw,h=>by
  simp only[List.nil_append,List.cons_append,List.cons.injEq] at h
  exact absurd h.1.symm (hw y List.mem_cons_self)
 |x::s,[],a,b,hs,_,h=>by
  simp only[List.nil_append,List.cons_append,List.cons.injEq] at h
  exact absurd h.1 (hs x List.mem_cons_self)
 |x::s,y::w,a,b,hs,hw,h=>by
  simp only[List.cons_append,List.cons.injEq] at h
  obtain⟨rfl,h⟩:=h
  rw[zLy s w a b (λz hz=>hs z (List.mem_cons_of_mem _ hz)) (λz hz=>hw z (List.mem_cons_of_mem _ hz)) h]
theorem zRc :∀(w p:Str) (s a b:Str),(∀x∈w,x≠32)->p++32::(s++32::a)=w++b->∃p',p'++32::(s++32::a)=b
 |[],p,s,a,b,_,h=>⟨p,by simpa using h⟩
 |y::w,[],s,a,b,hw,h=>by
  simp only[List.nil_append,List.cons_append,List.cons.injEq] at h
  exact absurd h.1.symm (hw y List.mem_cons_self)
 |y::w,x::p,s,a,b,hw,h=>by
  simp only[List.cons_append,List.cons.injEq] at h
  exact zRc w p s a b (λz hz=>hw z (List.mem_cons_of_mem _ hz)) h.2
theorem zXr :∀(ws:List Str) (s p a:Str),(∀x∈s,x≠32)->(∀w∈ws,∀x∈w,x≠32)->p++32::(s++32::a)=zEa ws->s∈ws
 |[],s,p,a,_,_,h=>by
  have:=congrArg List.length h
  simp[zEa] at this
  omega
 | w::ws,s,p,a,hs,hw,h=>by
  have hb:zEa (w::ws)=32::(w++zEa ws):=by simp[zEa]
  have hb2:∃t,zEa ws=32::t:=by cases ws<;>simp[zEa]
  rw[hb] at h
  cases p with
  |nil=>
   obtain⟨t,ht⟩:=hb2
   rw[ht] at h
   simp only[List.nil_append,List.cons.injEq,true_and] at h
   rw[zLy s w a t hs (hw w List.mem_cons_self) h]
   exact List.mem_cons_self
  |cons x p=>
   simp only[List.cons_append,List.cons.injEq] at h
   obtain⟨p',h'⟩:=zRc w p s a (zEa ws) (hw w List.mem_cons_self) h.2
   exact List.mem_cons_of_mem _ (zXr ws s p' a hs (λv hv=>hw v (List.mem_cons_of_mem _ hv)) h')
theorem zXj :∀(ws:List Str) (s:Str),s∈ws->∃p a,p++32::(s++32::a)=zEa ws
 | w::ws,s,h=>by
  have hb:zEa (w::ws)=32::(w++zEa ws):=by simp[zEa]
  have hb2:∃t,zEa ws=32::t:=by cases ws<;>simp[zEa]
  rcases List.mem_cons.1 h with rfl|h
  ·obtain⟨t,ht⟩:=hb2
   exact⟨[],t,by rw[hb,ht];rfl⟩
  ·obtain⟨p,a,h'⟩:=zXj ws s h
   exact⟨32::(w++p),a,by rw[hb,<-h'];simp⟩
theorem yRz (K t:Str):(∃i,i+t.length<=K.length/\(K.take (i+t.length)).drop i=t)↔∃p a,p++(t++a)=K:=by
 constructor
 ·rintro ⟨i,h1,h2⟩
  refine⟨K.take i,K.drop (i+t.length),?_⟩
  conv=>lhs;rw[<-h2]
  have h3:K.take i=(K.take (i+t.length)).take i:=by rw[List.take_take,Nat.min_eq_left (Nat.le_add_right _ _)]
  rw[h2,<-List.append_assoc,h3]
  conv=>lhs;lhs;rhs;rw[<-h2]
  rw[List.take_append_drop,List.take_append_drop]
 ·rintro ⟨p,a,rfl⟩
  refine⟨p.length,by simp,?_⟩
  rw[<-List.append_assoc,List.take_append_of_le_length (by simp),List.take_of_length_le (by simp),List.drop_left]
theorem yQw {b:UInt8} (h:nmB b=true):yBo (yBa b)=b:=by
 cases hl:loI b.toNat
 ·have:yBa b=b:=by simp only[yBa,hl,cond_false]
  rw[this,yJy.2 (xOo h)]
 ·have hl':=hl
  simp only[loI,Bool.and_eq_true,decide_eq_true_eq] at hl'
  have h2:(yBa b).toNat=b.toNat-32:=by
   simp only[yBa,hl,cond_true]
   rw[UInt8.toNat_sub_of_le _ _ (by rw[UInt8.le_iff_toNat_le];show 32<=b.toNat;omega)];rfl
  have h3:upI (yBa b).toNat=true:=by
   simp only[upI,Bool.and_eq_true,decide_eq_true_eq,h2];omega
  apply UInt8.toNat_inj.1
  simp only[yBo,h3,cond_true]
  rw[UInt8.toNat_add,h2]
  show (b.toNat-32+32) % 256=_
  have:=b.toNat_lt
  omega
theorem xOp {b:UInt8} (h:nmB b=true):b≠32:=by
 rintro rfl
 exact absurd h (by decide)
theorem yKc :(kwL.map λw=>w.map yBo).all (λw=>w.all λx=>!(x==32))=true:=by kernel_rfl
theorem yRd :kwL.all (λw=>(w.map yBo).map yBa==w)=true:=by kernel_rfl
theorem yZx (s:Str) (h:s.all nmB=true):(∃i,i+([32]++s++[32]).length<=KS.length/\(KS.take (i+([32]++s++[32]).length)).drop i=[32]++s++[32])↔s.map yBa∈kwL:=by
 rw[yRz,xPq]
 rw[List.all_eq_true] at h
 have hw:∀w∈kwL.map (λw=>w.map yBo),∀x∈w,x≠32:=λw hw x hx=>by
  have:=List.all_eq_true.1 (List.all_eq_true.1 yKc w hw) x hx
  intro e;subst e;simp at this
 constructor
 ·rintro ⟨p,a,e⟩
  have e:p++32::(s++32::a)=zEa (kwL.map λw=>w.map yBo):=by rw[<-e];simp
  have:=zXr _ s p a (λx hx=>xOp (h x hx)) hw e
  obtain⟨w,hw1,rfl⟩:=List.mem_map.1 this
  have:=List.all_eq_true.1 yRd w hw1
  rw[eq_of_beq this];exact hw1
 ·intro hm
  have e:(s.map yBa).map yBo=s:=by
   rw[List.map_map]
   exact(List.map_congr_left (g:=id) λx hx=>yQw (h x hx)).trans (List.map_id s)
  have:s∈kwL.map λw=>w.map yBo:=List.mem_map.2 ⟨_,hm,e⟩
  obtain⟨p,a,e⟩:=zXj _ s this
  exact⟨p,a,by rw[<-e];simp⟩
theorem yDp (s:Str) (hs:s.length<=100):zA (XG GK) TT 235 [.str s]=some (.bool (zZa s)):=by
 refine zD T235 rfl (by simp only[go_sem]) ?_
 unfold Tryz.f235 xIx
 simp only[Option.getD_some]
 obtain⟨v,c1,b1,rfl,hb1⟩:=ySb KS ([32]++s++[32]) (by decide) (by simp;omega)
 have c8:=xOv
 cases s with
 |nil=>
  simp +decide only[go_sem]
  refine gw (an c8 c1) ?_
  simp +decide only[go_sem]
  rfl
 | cons b r=>
  generalize hS:b::r=s at *
  have n1:atI s 0=some b:=by rw[<-hS];rfl
  have nB:zZa s=((decide (s.length<=24)&&loI b.toNat)&&(s.all nmB&&!decide (s.map yBa∈kwL))):=by rw[<-hS];rfl
  have hl:((s.length:Int)<1)=False:=eq_false (by rw[<-hS];simp only[List.length_cons];omega)
  rw[nB]
  have hkw:=yZx s
  generalize hkw0:decide (s.map yBa∈kwL)=kw at *
  generalize KS=ks at *
  simp +decide only[go_sem]
  by_cases h1:(24:Int)<(s.length:Int)
  ·refine gw (an5 c8 c1 n1 hl h1) ?_
   simp +decide only[go_sem]
   simp only[decide_eq_false (show ¬s.length<=24 by omega),Bool.false_and]
  rw[decide_eq_true (show s.length<=24 by omega),Bool.true_and]
  by_cases h2:(b.toNat:Int)<97
  ·refine gw (an6 c8 c1 n1 hl h1 h2) ?_
   simp +decide only[go_sem]
   have:loI b.toNat=false:=by
    simp only[loI,decide_eq_false (show ¬(97:Int)<=b.toNat by omega),Bool.false_and]
   rw[this,Bool.false_and]
  by_cases h3:(122:Int)<(b.toNat:Int)
  ·refine gw (an7 c8 c1 n1 hl h1 h2 h3) ?_
   simp +decide only[go_sem]
   have:loI b.toNat=false:=by
    simp only[loI,decide_eq_false (show ¬(b.toNat:Int)<=122 by omega),Bool.and_false]
   rw[this,Bool.false_and]
  have h4:loI b.toNat=true:=by
   simp only[loI,Bool.and_eq_true,decide_eq_true_eq];omega
  rw[h4,Bool.true_and]
  refine gw (an7 c8 c1 n1 hl h1 h2 h3) ?_
  refine lpC (T:=Nat) [0,3] (λk=>[(3,.int .i64 (k:Int))]) (λ_=>[]) (λ_=>⟨[],[]⟩) (λk=>k<=s.length/\∀x∈s.take k,nmB x=true) (λk=>s.length-k) 0 (by simp) ?_
  rintro k ⟨hk,hP⟩
  by_cases h:k<s.length
  ·obtain⟨l_x,x,g_x,w_x⟩:=elm (L:=s) (k:=k) (by assumption) (by omega)
   have hx:=List.mem_of_getElem? g_x
   have yHx:nmB x=true->k+1<=s.length/\∀y∈s.take (k+1),nmB y=true:=λe=>by
    refine⟨by omega,λy hy=>?_⟩
    rw[List.take_add_one,g_x] at hy
    rcases List.mem_append.1 hy with hy|hy
    ·exact hP y hy
    ·obtain rfl:y=x:=by simpa using hy
     exact e
   have bad:nmB x=false->s.all nmB=false:=λe=>by
    cases h:s.all nmB
    ·rfl
    ·rw[List.all_eq_true.1 h x hx] at e;cases e
   refine gw (an9 c8 c1 n1 hl h1 h2 h3 l_x (an g_x w_x)) ?_
   cases a1:(decide ((97:Int)<=x.toNat))
   ·cases a3:(decide ((48:Int)<=x.toNat))
    ·cases a5:((x.toNat:Int)==95)
     ·refine gw (an9 c8 c1 n1 hl h1 h2 h3 l_x (an5 g_x w_x a1 a3 a5)) ?_
      simp +decide only[go_sem]
      rw[bad (by simp only[nmB,nmI,loI,dgI,a1,a3,a5,Bool.false_and,Bool.or_self]),Bool.false_and]
     ·refine gw (an9 c8 c1 n1 hl h1 h2 h3 l_x (an5 g_x w_x a1 a3 a5)) ?_
      exact⟨k+1,by simp +decide only[go_sem]<;>rfl,yHx (by simp only[nmB,nmI,a5,Bool.or_true]),by omega⟩
    ·cases a4:(decide ((x.toNat:Int)<=57))
     ·cases a5:((x.toNat:Int)==95)
      ·refine gw (an9 c8 c1 n1 hl h1 h2 h3 l_x (an6 g_x w_x a1 a3 a4 a5)) ?_
       simp +decide only[go_sem]
       rw[bad (by simp only[nmB,nmI,loI,dgI,a1,a3,a4,a5,Bool.false_and,Bool.and_false,Bool.or_self]),Bool.false_and]
      ·refine gw (an9 c8 c1 n1 hl h1 h2 h3 l_x (an6 g_x w_x a1 a3 a4 a5)) ?_
       exact⟨k+1,by simp +decide only[go_sem]<;>rfl,yHx (by simp only[nmB,nmI,a5,Bool.or_true]),by omega⟩
     ·refine gw (an9 c8 c1 n1 hl h1 h2 h3 l_x (an5 g_x w_x a1 a3 a4)) ?_
      exact⟨k+1,by simp +decide only[go_sem]<;>rfl,yHx (by simp only[nmB,nmI,dgI,a3,a4,Bool.and_self,Bool.or_true,Bool.true_or]),by omega⟩
   ·cases a2:(decide ((x.toNat:Int)<=122))
    ·cases a3:(decide ((48:Int)<=x.toNat))
     ·cases a5:((x.toNat:Int)==95)
      ·refine gw (an9 c8 c1 n1 hl h1 h2 h3 l_x (an6 g_x w_x a1 a2 a3 a5)) ?_
       simp +decide only[go_sem]
       rw[bad (by simp only[nmB,nmI,loI,dgI,a1,a2,a3,a5,Bool.false_and,Bool.and_false,Bool.or_self]),Bool.false_and]
      ·refine gw (an9 c8 c1 n1 hl h1 h2 h3 l_x (an6 g_x w_x a1 a2 a3 a5)) ?_
       exact⟨k+1,by simp +decide only[go_sem]<;>rfl,yHx (by simp only[nmB,nmI,a5,Bool.or_true]),by omega⟩
     ·cases a4:(decide ((x.toNat:Int)<=57))
      ·cases a5:((x.toNat:Int)==95)
       ·refine gw (an9 c8 c1 n1 hl h1 h2 h3 l_x (an7 g_x w_x a1 a2 a3 a4 a5)) ?_
        simp +decide only[go_sem]
        rw[bad (by simp only[nmB,nmI,loI,dgI,a1,a2,a3,a4,a5,Bool.and_false,Bool.or_self]),Bool.false_and]
       ·refine gw (an9 c8 c1 n1 hl h1 h2 h3 l_x (an7 g_x w_x a1 a2 a3 a4 a5)) ?_
        exact⟨k+1,by simp +decide only[go_sem]<;>rfl,yHx (by simp only[nmB,nmI,a5,Bool.or_true]),by omega⟩
      ·refine gw (an9 c8 c1 n1 hl h1 h2 h3 l_x (an6 g_x w_x a1 a2 a3 a4)) ?_
       exact⟨k+1,by simp +decide only[go_sem]<;>rfl,yHx (by simp only[nmB,nmI,dgI,a3,a4,Bool.and_self,Bool.or_true,Bool.true_or]),by omega⟩
    ·refine gw (an9 c8 c1 n1 hl h1 h2 h3 l_x (an4 g_x w_x a1 a2)) ?_
     exact⟨k+1,by simp +decide only[go_sem]<;>rfl,yHx (by simp only[nmB,nmI,loI,a1,a2,Bool.and_self,Bool.true_or]),by omega⟩
  ·have l_x:((k:Int)<((s).length:Int))=False:=by simp;omega
   rw[List.take_of_length_le (by omega)] at hP
   have h5:s.all nmB=true:=List.all_eq_true.2 hP
   have l1:(1+s.length<=140737488355328)=True:=eq_true (by omega)
   have l2:(s.length+1+1<=140737488355328)=True:=eq_true (by omega)
   have c2:zA (XG GK) TT 281 [.str ks,.str (32::(s++[32]))]=some (.bool b1):=c1
   have e:b1=kw:=by
    have:=hb1.trans (hkw h5)
    rw[<-hkw0]
    cases b1<;>simp at this ⊢<;>exact this
   refine gw (an9 c8 c1 n1 hl h1 h2 h3 l_x (an3 l1 l2 c2)) ?_
   simp +decide only[go_sem]
   rw[h5,Bool.true_and,e]
theorem zXv {α:Type} (p:α->Bool):∀(l:List α) (i k:Nat),fnd p i l=some k->i<=k/\∃x,l[k-i]?=some x/\p x=true
 | a::r,i,k,h=>by
  rw[fnd] at h
  cases c:p a
  ·rw[c] at h
   obtain⟨h1,x,h2,h3⟩:=zXv p r (i+1) k h
   refine⟨by omega,x,?_,h3⟩
   rw[show k-i=(k-(i+1))+1 by omega]
   exact h2
  ·rw[c] at h
   cases h
   exact⟨Nat.le_refl _,a,by simp,c⟩
theorem zUf {α:Type} (p:α->Bool):∀(l:List α) (i:Nat),(fnd p i l).isSome=l.any p
 |[],i=>rfl
 |a::r,i=>by
  rw[fnd,List.any_cons]
  cases c:p a
  ·simp only[zUf p r,Bool.false_or]
  ·rfl
theorem yQp {α:Type} (p:α->Bool) (l:List α):(!l.any λx=>!p x)=l.all p:=by
 induction l with
 |nil=>rfl
 |cons a r ih=>simp only[List.any_cons,List.all_cons,Bool.not_or,Bool.not_not,ih]
theorem yZz (s:Sl I64) (g:Nat) (cap:List D) (m:Mem) (p:I64->Bool) (hg:(g<100000)=True) (hp:∀x∈s.items,zG (XG GK) TT g m (I x::cap)=some (.bool (p x),m)) :
  zG (XG GK) TT 253 m [sl 1 I s,.func g cap]=some (yUw (fnd p 0 s.items),m):=by
 refine yB T253 rfl ?_
 unfold Tryz.f253 xIi
 simp only[Option.getD_some]
 have hlt:=s.lt
 simp +decide only[go_sem,ra]
 refine gw hg ?_
 refine lpC (T:=Nat) [0,1,7,8] (λk=>[(8,.int .i64 (k:Int))]) (λ_=>[]) (λ_=>m) (λk=>k<=s.items.length/\fnd p k (s.items.drop k)=fnd p 0 s.items) (λk=>s.items.length-k) 0 (by simp) ?_
 rintro k ⟨hk,hP⟩
 by_cases h:k<s.items.length
 ·obtain⟨l_x,x,g_x,w_x⟩:=elm (L:=s.items) (k:=k) (by assumption) (by omega)
  rw[zCk g_x,fnd] at hP
  have hc:=hp x (List.mem_of_getElem? g_x)
  simp only[xVj] at hc
  cases c:(p x)
  ·rw[c] at hP
   refine gw (an6 hg l_x g_x w_x hc c) ?_
   exact⟨k+1,by simp +decide only[go_sem]<;>rfl,⟨by omega,hP⟩,by omega⟩
  ·rw[c] at hP
   refine gw (an6 hg l_x g_x w_x hc c) ?_
   simp +decide only[go_sem]
   rw[<-hP]
   exact⟨rfl,trivial⟩
 ·have l_x:((k:Int)<((s.items).length:Int))=False:=by simp;omega
  rw[List.drop_eq_nil_of_le (by omega),fnd] at hP
  refine gw (an hg l_x) ?_
  simp +decide only[go_sem]
  rw[<-hP]
  exact⟨rfl,trivial⟩
theorem xAt (s:Sl I64) (g:Nat) (cap:List D) (m:Mem) (p:I64->Bool) (hg:(g<100000)=True) (hp:∀x∈s.items,zG (XG GK) TT g m (I x::cap)=some (.bool (p x),m)) :
  zG (XG GK) TT 185 m [sl 1 I s,.func g cap]=some (.bool (s.items.any p),m):=by
 refine yB T185 rfl ?_
 unfold Tryz.f185 xJf
 simp only[Option.getD_some]
 have hc:=yZz s g cap m p hg hp
 rw[<-zUf p s.items 0]
 simp +decide only[go_sem,ra]
 refine gw (an hg hc) ?_
 generalize fnd p 0 s.items=o at *
 cases o with
 |none=>
  simp only[yUw] at hc
  refine gw (an hg hc) ?_
  simp +decide only[go_sem]
  exact⟨rfl,trivial⟩
 |some j=>
  simp only[yUw] at hc
  repeat (first|(with_reducible first|refine q1 ?_|refine q2 ?_|refine q3 ?_|refine q4 ?_|refine q5 ?_|refine q6 ?_|refine q7 ?_|refine q8 ?_|refine q9 ?_|refine q10 ?_|refine q11 ?_|refine q12 (by decide) ?_)|((first|with_reducible refine q13 ?_|((with_reducible refine q14 ?_ ?_);focus exact rfl));intro K hK;simp +decide only[go_sem,hc,zMx];with_reducible refine hK _ ?_;clear hK K)|(with_reducible refine q15 ?_;intro K J hK hJ;simp +decide only[go_sem,ra,rb,rc,hg,hc,zMx];(with_reducible first|refine hK ?_|refine hJ ?_);clear hK hJ K J))
  simp +decide only[go_sem]
  exact⟨rfl,trivial⟩
end Go.Eng
namespace Go.Eng
open Go Go.Proofs
open Nat renaming reduceAdd → ra, reduceMul → rb, reduceSub → rc
set_option maxRecDepth 20000
set_option maxHeartbeats 32000000
attribute [local irreducible] wpI xU
variable {G:Nat->Option (List D)}
def zVu (c:Col):Bool:=zZa c.name&&(bif c.a.1==1 then decide (-2147483648<=c.b.1)&&(decide (c.b.1<=c.c.1)&&(decide (c.c.1<=2147483647)&&c.d.1==0)) else bif c.a.1==2 then decide (1<=c.d.1)&&(decide (c.d.1<=16)&&(c.b.1==0&&c.c.1==0)) else false)
theorem xAx (c:Col) (hs:c.name.length<=100):zA (XG GK) TT 236 [yO c]=some (.bool (zVu c)):=by
 refine zD T236 rfl (by simp only[go_sem]) ?_
 unfold Tryz.f236 xIw
 simp only[Option.getD_some]
 have c1:=yDp c.name hs
 simp +decide only[go_sem]
 refine gw c1 ?_
 cases n:(zZa c.name)
 ·refine gw (an c1 n) ?_
  simp +decide only[go_sem]
  simp only[n,zVu,Bool.false_and]
 cases t1:(c.a.1==1)
 ·cases t2:(c.a.1==2)
  ·refine gw (an4 c1 n t1 t2) ?_
   simp +decide only[go_sem]
   simp only[n,t1,t2,zVu,cond_false,Bool.and_false]
  ·cases a1:(decide (1<=c.d.1))
   ·refine gw (an5 c1 n t1 t2 a1) ?_
    simp +decide only[go_sem]
    simp only[n,t1,t2,a1,zVu,cond_true,cond_false,Bool.false_and,Bool.and_false]
   cases a2:(decide (c.d.1<=16))
   ·refine gw (an6 c1 n t1 t2 a1 a2) ?_
    simp +decide only[go_sem]
    simp only[n,t1,t2,a1,a2,zVu,cond_true,cond_false,Bool.false_and,Bool.and_false]
   cases a3:(c.b.1==0)
   ·refine gw (an7 c1 n t1 t2 a1 a2 a3) ?_
    simp +decide only[go_sem]
    simp only[n,t1,t2,a1,a2,a3,zVu,cond_true,cond_false,Bool.false_and,Bool.and_false]
   refine gw (an7 c1 n t1 t2 a1 a2 a3) ?_
   simp +decide only[go_sem]
   simp only[n,t1,t2,a1,a2,a3,zVu,cond_true,cond_false,Bool.true_and]
 ·cases a1:(decide (-2147483648<=c.b.1))
  ·refine gw (an4 c1 n t1 a1) ?_
   simp +decide only[go_sem]
   simp only[n,t1,a1,zVu,cond_true,Bool.false_and,Bool.and_false]
  cases a2:(decide (c.b.1<=c.c.1))
  ·refine gw (an5 c1 n t1 a1 a2) ?_
   simp +decide only[go_sem]
   simp only[n,t1,a1,a2,zVu,cond_true,Bool.false_and,Bool.and_false]
  cases a3:(decide (c.c.1<=2147483647))
  ·refine gw (an6 c1 n t1 a1 a2 a3) ?_
   simp +decide only[go_sem]
   simp only[n,t1,a1,a2,a3,zVu,cond_true,Bool.false_and,Bool.and_false]
  refine gw (an6 c1 n t1 a1 a2 a3) ?_
  simp +decide only[go_sem]
  simp only[n,t1,a1,a2,a3,zVu,cond_true,Bool.true_and]
def yPd {α:Type} (e:α->α->Bool) (seen:List α):List α->Bool
 |[]=>false
 |a::r=>seen.any (λs=>e a s)||yPd e (seen++[a]) r
def yBq (l:List Str):Bool:=yPd (λa b=>a==b) [] l
theorem yGc {α:Type} {e:α->α->Bool} {l:List α} {k:Nat} {x:α} (h:l[k]?=some x):yPd e (l.take k) (l.drop k)=((l.take k).any (λs=>e x s)||yPd e (l.take (k+1)) (l.drop (k+1))):=by
 rw[zCk h,yPd,List.take_add_one,h];rfl
theorem zOx (s:Sl Str):zA (XG G) TT 238 [sl 1 S s]=some (.bool (yBq s.items)):=by
 refine zD T238 rfl (by simp only[go_sem]) ?_
 unfold Tryz.f238 xIu
 simp only[Option.getD_some]
 have hlt:=s.lt
 simp +decide only[go_sem]
 refine gw trivial ?_
 refine lpC (T:=Nat) [0,3] (λk=>[(3,.int .i64 (k:Int))]) (λ_=>[]) (λ_=>⟨[],[]⟩) (λk=>k<=s.items.length/\yPd (λa b=>a==b) (s.items.take k) (s.items.drop k)=yBq s.items) (λk=>s.items.length-k) 0 (by exact⟨Nat.zero_le _,rfl⟩) ?_
 rintro k ⟨hk,hP⟩
 by_cases h:k<s.items.length
 ·obtain⟨l_x,x,g_x,w_x⟩:=elm (L:=s.items) (k:=k) (by assumption) (by omega)
  rw[yGc g_x] at hP
  refine gw (an3 l_x g_x w_x) ?_
  refine lpC (T:=Nat) [0,3,4] (λj=>[(4,.int .i64 (j:Int))]) (λ_=>[]) (λ_=>⟨[],[]⟩) (λj=>j<=k/\((s.items.take j).any λy=>x==y)=false) (λj=>k-j) 0 (by simp) ?_
  rintro j ⟨hj,hQ⟩
  by_cases h2:j<k
  ·have l2:((j:Int)<(k:Int))=True:=eq_true (by omega)
   have h3:j<s.items.length:=by omega
   obtain⟨l_y,y,g_y,w_y⟩:=elm (L:=s.items) (k:=j) (by assumption) (by omega)
   cases c:(x==y)
   ·refine gw (an8 l_x g_x w_x l_y g_y w_y l2 c) ?_
    refine⟨j+1,by simp +decide only[go_sem]<;>rfl,⟨by omega,?_⟩,by omega⟩
    rw[List.take_add_one,g_y,List.any_append,hQ]
    simp[c]
   ·refine gw (an8 l_x g_x w_x l_y g_y w_y l2 c) ?_
    simp +decide only[go_sem]
    have:((s.items.take k).any λy=>x==y)=true:=by
     rw[List.any_eq_true]
     exact⟨y,List.mem_of_getElem? (i:=j) (by rw[List.getElem?_take,if_pos h2,g_y]),c⟩
    rw[this,Bool.true_or] at hP
    rw[<-hP]
  ·have l2:((j:Int)<(k:Int))=False:=eq_false (by omega)
   obtain rfl:j=k:=by omega
   rw[hQ,Bool.false_or] at hP
   refine gw (an4 l_x g_x w_x l2) ?_
   exact⟨j+1,by simp +decide only[go_sem]<;>rfl,⟨by omega,hP⟩,by omega⟩
 ·have l_x:((k:Int)<((s.items).length:Int))=False:=by simp;omega
  rw[List.drop_eq_nil_of_le (by omega),yPd] at hP
  refine gw l_x ?_
  simp +decide only[go_sem]
  rw[<-hP]
end Go.Eng
