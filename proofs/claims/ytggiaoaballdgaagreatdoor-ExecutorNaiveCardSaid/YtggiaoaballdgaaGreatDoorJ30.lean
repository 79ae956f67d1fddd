/- A part of the proof: see the last text. -/
import Derived.Test.YtggiaoaballdgaaGreatDoorJ29
import Derived.Test.YtggiaoaballdgaaGreatDoorJ12
set_option linter.unusedSimpArgs false
set_option linter.unusedVariables false
namespace Go.Eng
open Go Go.Proofs
open Nat renaming reduceAdd → ra, reduceMul → rb, reduceSub → rc
set_option maxRecDepth 20000
set_option maxHeartbeats 32000000
attribute [local irreducible] wpI xU
variable {G:Nat->Option (List D)}
theorem zKl (a b:Int):zA (XG G) TT 118 [.int .i64 a,.int .i64 b]=some (.int .i64 (uG a b)):=by
 refine zD T118 rfl (by simp only[go_sem]) ?_
 unfold Tryz.f118 xKx
 simp only[Option.getD_some]
 simp +decide only[go_sem,ra]
 cases c1:(decide (a<b))
 ·cases c2:(decide (b<a))
  ·refine gw (an c1 c2) ?_
   simp +decide only[go_sem]
   simp only[decide_eq_false_iff_not] at c1 c2
   simp only[uG,c1,c2,if_false]
  ·refine gw (an c1 c2) ?_
   simp +decide only[go_sem]
   simp only[decide_eq_false_iff_not,decide_eq_true_eq] at c1 c2
   simp only[uG,c1,c2,if_false,if_true]
 ·refine gw c1 ?_
  simp +decide only[go_sem]
  simp only[decide_eq_true_eq] at c1
  simp only[uG,c1,if_true]
theorem ySf {x y:UInt8} (r s:Str) (h:(x.toNat:Int)≠(y.toNat:Int)):zCg (x::r) (y::s)=uG x.toNat y.toNat:=by
 have hne:x.toNat≠y.toNat:=by omega
 unfold zCg
 rw[Lib.compareBytes]
 simp only[zTh,uG]
 grind
theorem ySg {x y:UInt8} (r s:Str) (h:(x.toNat:Int)=(y.toNat:Int)):zCg (x::r) (y::s)=zCg r s:=by
 have hne:x=y:=zEb (by omega)
 subst hne
 unfold zCg
 rw[Lib.compareBytes]
 simp only[zTh]
 grind
theorem yPt (a b:Str) (ha:a.length<4611686018427387904) (hb:b.length<4611686018427387904):zA (XG G) TT 174 [.str a,.str b]=some (.int .i64 (zCg a b)):=by
 refine zD T174 rfl (by simp only[go_sem]) ?_
 unfold Tryz.f174 xJn
 simp only[Option.getD_some]
 simp +decide only[go_sem,ra]
 refine gw trivial ?_
 refine lpC (T:=Nat) [0,1,5] (λk=>[(5,.int .i64 (k:Int))]) (λ_=>[]) (λ_=>⟨[],[]⟩) (λk=>k<=a.length/\k<=b.length/\zCg (a.drop k) (b.drop k)=zCg a b) (λk=>a.length-k) 0 (by simp) ?_
 rintro k ⟨hk,hkb,hP⟩
 try simp only at hk hkb hP ⊢
 have hI:=zKl (G:=G) a.length b.length
 by_cases h:k<a.length
 ·obtain⟨l_x,x,g_x,w_x⟩:=elm (L:=a) (k:=k) (by assumption) (by omega)
  rw[List.drop_eq_getElem_cons h] at hP
  have hx:a[k]=x:=by rw[List.getElem?_eq_getElem h] at g_x;cases g_x;rfl
  rw[hx] at hP
  by_cases h2:k<b.length
  ·have l2:((k:Int)<(b.length:Int))=True:=eq_true (by omega)
   obtain⟨y,g_y⟩:∃y,b[k]?=some y:=⟨_,List.getElem?_eq_getElem h2⟩
   rw[List.drop_eq_getElem_cons h2] at hP
   have hy:b[k]=y:=by rw[List.getElem?_eq_getElem h2] at g_y;cases g_y;rfl
   rw[hy] at hP
   have hJ:=zKl (G:=G) x.toNat y.toNat
   have w1:=vV x.toNat (by have:=x.toNat_lt;omega)
   have w2:=vV y.toNat (by have:=y.toNat_lt;omega)
   cases c:((x.toNat:Int) != (y.toNat:Int))
   ·rw[ySg _ _ (by simpa using c)] at hP
    refine gw (an6 l_x g_x w_x l2 g_y c) ?_
    exact⟨k+1,by simp +decide only[go_sem]<;>rfl,⟨by omega,by omega,hP⟩,by omega⟩
   ·rw[ySf _ _ (by simpa using c)] at hP
    refine gw (an9 l_x g_x w_x l2 g_y c hJ w1 w2) ?_
    simp +decide only[go_sem]
    rw[hP]
  ·have l2:((k:Int)<(b.length:Int))=False:=eq_false (by omega)
   rw[List.drop_eq_nil_of_le (by omega:b.length<=k)] at hP
   have hc:uG a.length b.length=zCg (x::a.drop (k+1)) []:=by
    have:¬((a.length:Int)<b.length):=by omega
    have h3:(b.length:Int)<a.length:=by omega
    simp only[uG,this,h3,if_false,if_true];rfl
   rw[hc,hP] at hI
   refine gw (an5 l_x g_x w_x l2 hI) ?_
   simp +decide only[go_sem]
 ·have l_e:((k:Int)<((a).length:Int))=False:=by simp;omega
  rw[List.drop_eq_nil_of_le (by omega:a.length<=k)] at hP
  have hc:uG a.length b.length=zCg [] (b.drop k):=by
   cases hd:b.drop k with
   |nil=>
    have:=congrArg List.length hd
    simp at this
    have h1:¬((a.length:Int)<b.length):=by omega
    have h2:¬((b.length:Int)<a.length):=by omega
    simp only[uG,h1,h2,if_false];rfl
   |cons y t=>
    have:=congrArg List.length hd
    simp at this
    have h1:(a.length:Int)<b.length:=by omega
    simp only[uG,h1,if_true];rfl
  rw[hc,hP] at hI
  refine gw (an l_e hI) ?_
  simp +decide only[go_sem]
theorem xAz (x y:Val) (hx:x.s.length<4611686018427387904) (hy:y.s.length<4611686018427387904):zA (XG G) TT 117 [vD x,vD y]=some (.int .i64 (zTe x y)):=by
 refine zD T117 rfl (by simp only[go_sem]) ?_
 unfold Tryz.f117 xKy
 simp only[Option.getD_some]
 have i1:=zKl (G:=G) x.k y.k
 have i2:=zKl (G:=G) x.n y.n
 have i3:=yPt (G:=G) x.s y.s hx hy
 simp +decide only[go_sem,ra]
 unfold zTe yHa
 cases c1:(x.k != y.k)
 ·have e1:uG x.k y.k=0:=uC.2 (by simpa using c1)
  rw[if_pos e1]
  cases c2:(x.n != y.n)
  ·have e2:uG x.n y.n=0:=uC.2 (by simpa using c2)
   rw[if_pos e2]
   refine gw (an5 i1 i2 i3 c1 c2) ?_
   simp +decide only[go_sem]
  ·have e2:uG x.n y.n≠0:=λe=>by have:=uC.1 e;simp[this] at c2
   rw[if_neg e2]
   refine gw (an5 i1 i2 i3 c1 c2) ?_
   simp +decide only[go_sem]
 ·have e1:uG x.k y.k≠0:=λe=>by have:=uC.1 e;simp[this] at c1
  rw[if_neg e1]
  refine gw (an4 i1 i2 i3 c1) ?_
  simp +decide only[go_sem]
def yBl (r:List Val):Prop:=∀v∈r,v.s.length<4611686018427387904
theorem yZa (x y:Sl Val) (hx:yBl x.items) (hy:yBl y.items):zA (XG G) TT 70 [sl 3 vD x,sl 3 vD y]=some (.int .i64 (yZ x.items y.items)):=by
 refine zD T70 rfl (by simp only[go_sem]) ?_
 unfold Tryz.f70 F70
 simp only[Option.getD_some]
 have hlt:=x.lt
 have hlty:=y.lt
 have hI:=zKl (G:=G) x.items.length y.items.length
 simp +decide only[go_sem,ra]
 refine gw trivial ?_
 refine lpC (T:=Nat) [0,1,5] (λk=>[(5,.int .i64 (k:Int))]) (λ_=>[]) (λ_=>⟨[],[]⟩) (λk=>k<=x.items.length/\k<=y.items.length/\yZ (x.items.drop k) (y.items.drop k)=yZ x.items y.items) (λk=>x.items.length-k) 0 (by simp) ?_
 rintro k ⟨hk,hkb,hP⟩
 try simp only at hk hkb hP ⊢
 by_cases h:k<x.items.length
 ·obtain⟨l_a,a,g_a,w_a⟩:=elm (L:=x.items) (k:=k) (by assumption) (by omega)
  rw[List.drop_eq_getElem_cons h] at hP
  have hxa:x.items[k]=a:=by rw[List.getElem?_eq_getElem h] at g_a;cases g_a;rfl
  rw[hxa] at hP
  by_cases h2:k<y.items.length
  ·have l2:((k:Int)<(y.items.length:Int))=True:=eq_true (by omega)
   obtain⟨b,g_b⟩:∃b,y.items[k]?=some b:=⟨_,List.getElem?_eq_getElem h2⟩
   rw[List.drop_eq_getElem_cons h2] at hP
   have hyb:y.items[k]=b:=by rw[List.getElem?_eq_getElem h2] at g_b;cases g_b;rfl
   rw[hyb,yZ] at hP
   have hc:=xAz (G:=G) a b (hx a (List.mem_of_getElem? g_a)) (hy b (List.mem_of_getElem? g_b))
   simp only[zBg] at hc
   cases c:(zTe a b != 0)
   ·rw[if_pos (by simpa using c)] at hP
    refine gw (an7 l_a g_a w_a l2 g_b hc c) ?_
    exact⟨k+1,by simp +decide only[go_sem]<;>rfl,⟨by omega,by omega,hP⟩,by omega⟩
   ·rw[if_neg (by simpa using c)] at hP
    refine gw (an7 l_a g_a w_a l2 g_b hc c) ?_
    simp +decide only[go_sem]
    rw[<-hP]
  ·have l2:((k:Int)<(y.items.length:Int))=False:=eq_false (by omega)
   rw[List.drop_eq_nil_of_le (by omega:y.items.length<=k),yZ] at hP
   have hc:uG x.items.length y.items.length=1:=by
    have h1:¬((x.items.length:Int)<y.items.length):=by omega
    have h3:(y.items.length:Int)<x.items.length:=by omega
    simp only[uG,h1,h3,if_false,if_true]
   rw[hc,hP] at hI
   refine gw (an5 l_a g_a w_a l2 hI) ?_
   simp +decide only[go_sem]
 ·have l_e:((k:Int)<((x.items).length:Int))=False:=by simp;omega
  rw[List.drop_eq_nil_of_le (by omega:x.items.length<=k)] at hP
  have hc:uG x.items.length y.items.length=yZ [] (y.items.drop k):=by
   cases hd:y.items.drop k with
   |nil=>
    have:=congrArg List.length hd
    simp at this
    have h1:¬((x.items.length:Int)<y.items.length):=by omega
    have h2:¬((y.items.length:Int)<x.items.length):=by omega
    simp only[uG,h1,h2,if_false];rfl
   |cons z t=>
    have:=congrArg List.length hd
    simp at this
    have h1:(x.items.length:Int)<y.items.length:=by omega
    simp only[uG,h1,if_true];rfl
  rw[hc,hP] at hI
  refine gw (an l_e hI) ?_
  simp +decide only[go_sem]
theorem yCg (k:Nat) (l:List Val) (h):sl k vD (slV l h)=.slice none k (l.map vD):=rfl
theorem zKt (l:List Val) (h):(slV l h).items=l:=rfl
theorem zDi {g:Nat->Nat->Nat->Nat->D} (r:List Val):zF g (rv r)=rv r:=by
 show D.slice none 3 (zC g (r.map vD))=_
 rw[zL vD λv=>yW v];rfl
@[go_sem] theorem xBn {g:Nat->Nat->Nat->Nat->D} (k:Nat) (s:Sl (List Val)):zF g (sl k rv s)=sl k rv s:=xL k rv s zDi
theorem uY {g:Nat->Nat->Nat->Nat->D} (l:List (List Val)):zC g (l.map rv)=l.map rv:=zL rv (λr=>zDi r) l
abbrev yMn (r:List Val) (l:List (List Val)):List (List Val):=yBg (c:=yZ) r l
theorem xLx (l:Sl (List Val)) (r:List Val) (hl:∀x∈r::l.items,x.length<=100000/\yBl x) (hn:l.items.length<=100000):zA (XG G) TT 34 [sl 1 rv l,rv r]=some (wW 1 ((yMn r l.items).map rv)):=by
 have hrl:=(hl r (by simp)).1
 have hst:∀(g:Nat->Nat->Nat->Nat->D) (x:List Val),zC g (x.map vD)=x.map vD:=λg x=>zL vD (λv=>yW v) x
 have hrv:∀x:List Val,rv x=.slice none 3 (x.map vD):=λ_=>rfl
 have hma:∀(a:List (List Val)) (x:List Val),a.map rv++[.slice none 3 (x.map vD)]=(a++[x]).map rv:=λa x=>by rw[List.map_append];rfl
 refine zD T34 rfl (by simp only[go_sem,zDi]) ?_
 unfold Tryz.f34 F34
 simp only[Option.getD_some,hrv r]
 have hlt:=l.lt
 simp +decide only[go_sem,ra]
 refine gw (an3 hrv hma hst) ?_
 refine lpC (T:=Nat×Bool×List (List Val)) [0,1,5,6,7] (λp=>[(7,.int .i64 (p.1:Int)),(6,.bool p.2.1),(5,zMm 1 (p.2.2.map rv))]) (λ_=>[]) (λp=>⟨[],zVv (p.2.2.map rv)⟩) (λp=>p.1<=l.items.length/\p.2.2++(if p.2.1 then l.items.drop p.1 else yMn r (l.items.drop p.1))=yMn r l.items) (λp=>l.items.length-p.1) (0,false,[]) (by exact⟨Nat.zero_le _,rfl⟩) ?_
 rintro ⟨k,put,out⟩ ⟨hk,hP⟩
 simp only at hk hP ⊢
 have hol:out.length<=l.items.length+1:=by
  have h1:(yMn r l.items).length=(r::l.items).length:=(zFx (c:=yZ) r l.items).length_eq
  rw[<-hP,List.length_append,List.length_cons] at h1
  omega
 have zz1:((out.map rv).length+1<=16777216)=True:=eq_true (by rw[List.length_map];omega)
 have zz2:(((out++[r]).map rv).length+1<=16777216)=True:=eq_true (by rw[List.length_map,List.length_append,List.length_singleton];omega)
 by_cases h:k<l.items.length
 ·obtain⟨l_x,x,g_x,w_x⟩:=elm (L:=l.items) (k:=k) (by assumption) (by omega)
  rw[List.drop_eq_getElem_cons h] at hP
  have hxa:l.items[k]=x:=by rw[List.getElem?_eq_getElem h] at g_x;cases g_x;rfl
  rw[hxa] at hP
  have hxm:=hl x (by simp[List.mem_of_getElem? g_x])
  have hc:=yZa (G:=G) (slV r (by omega)) (slV x (by have:=hxm.1;omega)) (hl r (by simp)).2 hxm.2
  simp only[yCg,zKt] at hc
  cases put with
  | false=>
   simp only[Bool.false_eq_true,if_false] at hP
   cases c:(decide (yZ r x<0))
   ·have hc':=of_decide_eq_false c
    rw[yMn,yBg,if_neg hc'] at hP
    refine gw (an9 hrv hma hst zz1 zz2 l_x g_x w_x (an c hc)) ?_
    exact⟨(k+1,false,out++[x]),by simp +decide only[go_sem]<;>rfl,⟨h,by rw[<-hP];simp⟩,by simp only;omega⟩
   ·have hc':=of_decide_eq_true c
    rw[yMn,yBg,if_pos hc'] at hP
    refine gw (an9 hrv hma hst zz1 zz2 l_x g_x w_x (an c hc)) ?_
    exact⟨(k+1,true,out++[r]++[x]),by simp +decide only[go_sem]<;>rfl,⟨h,by rw[<-hP];simp⟩,by simp only;omega⟩
  |true=>
   simp only[if_true] at hP
   refine gw (an8 hrv hma hst zz1 zz2 l_x g_x w_x) ?_
   exact⟨(k+1,true,out++[x]),by simp +decide only[go_sem]<;>rfl,⟨h,by rw[<-hP];simp⟩,by simp only;omega⟩
 ·have l_e:((k:Int)<((l.items).length:Int))=False:=by simp;omega
  rw[List.drop_eq_nil_of_le (by omega:l.items.length<=k)] at hP
  cases put with
  |false=>
   simp only[Bool.false_eq_true,if_false] at hP
   rw[yMn,yBg] at hP
   refine gw (an6 hrv hma hst zz1 zz2 l_e) ?_
   simp +decide only[go_sem]
   rw[hP,uZ (uY _)]
  |true=>
   simp only[if_true,List.append_nil] at hP
   refine gw (an6 hrv hma hst zz1 zz2 l_e) ?_
   simp +decide only[go_sem]
   rw[hP,uZ (uY _)]
abbrev zMt (l:List (List Val)):List (List Val):=xEf (c:=yZ) l
theorem yNs (l:List (List Val)) (h:l.length<4611686018427387904):wW 1 (l.map rv)=sl 1 rv (cn l):=by
 unfold cn
 rw[dif_pos h]
 cases l<;>rfl
theorem zGd (l:List (List Val)) (h:l.length<4611686018427387904):(cn l).items=l:=by
 unfold cn
 rw[dif_pos h]
 cases l<;>rfl
theorem yJf (l:List (List Val)) (k:Nat) {x:List Val} (h:l[k]?=some x):zMt (l.take (k+1))=yMn x (zMt (l.take k)):=by
 rw[List.take_add_one,h]
 simp[xEf,List.foldl_append]
theorem xUt (l:Sl (List Val)) (hl:∀x∈l.items,x.length<=100000/\yBl x) (hn:l.items.length<=100000):zA (XG G) TT 13 [sl 1 rv l]=some (wW 1 ((zMt l.items).map rv)):=by
 have hrv:∀x:List Val,rv x=.slice none 3 (x.map vD):=λ_=>rfl
 have hst:∀(g:Nat->Nat->Nat->Nat->D) (x:List Val),zC g (x.map vD)=x.map vD:=λg x=>zL vD (λv=>yW v) x
 refine zD T13 rfl (by simp only[go_sem]) ?_
 unfold Tryz.f13 F13
 simp only[Option.getD_some]
 simp +decide only[go_sem]
 refine gw (an hst hrv) ?_
 refine lpC (T:=Nat) [0,3,4] (λk=>[(4,.int .i64 (k:Int)),(3,wW 1 ((zMt (l.items.take k)).map rv))]) (λ_=>[]) (λ_=>⟨[],[]⟩) (λk=>k<=l.items.length) (λk=>l.items.length-k) 0 (by exact Nat.zero_le _) ?_
 rintro k hk
 try simp only at hk ⊢
 by_cases h:k<l.items.length
 ·obtain⟨l_x,x,g_x,w_x⟩:=elm (L:=l.items) (k:=k) (by assumption) (by omega)
  have hperm:=zFs vW (l.items.take k)
  have hlen:(zMt (l.items.take k)).length<=100000:=by rw[hperm.length_eq,List.length_take];omega
  have hcn:=yNs (zMt (l.items.take k)) (by omega)
  have hp:=xLx (G:=G) (cn (zMt (l.items.take k))) x (λy hy=>by
   rw[zGd _ (by omega)] at hy
   rcases List.mem_cons.1 hy with rfl|hy
   ·exact hl _ (List.mem_of_getElem? g_x)
   ·exact hl y (List.mem_of_mem_take (hperm.mem_iff.1 hy))) (by rw[zGd _ (by omega)];exact hlen)
  rw[zGd _ (by omega),<-yJf l.items k g_x,<-hcn] at hp
  have hso:zF noR (wW 1 ((zMt (l.items.take k)).map rv))=wW 1 ((zMt (l.items.take k)).map rv):=zFq (uY _)
  generalize wW 1 ((zMt (l.items.take k)).map rv)=d at *
  simp only[hrv] at hp
  refine gw (an7 hst hrv l_x g_x w_x hp hso) ?_
  exact⟨k+1,by simp +decide only[go_sem]<;>rfl,h,by omega⟩
 ·have l_e:((k:Int)<((l.items).length:Int))=False:=by simp;omega
  refine gw (an3 hst hrv l_e) ?_
  simp +decide only[go_sem]
  rw[List.take_of_length_le (by omega),zFq (uY _)]
end Go.Eng
namespace Go.Eng
open Go
def yPa (c:List Val) (off:Nat) (r:List Val):List Val:=c.take off++r++c.drop (off+r.length)
def yGw (rs:List (List Val)):Nat:=match rs with|r::_=>r.length|[]=>0
def lev :List (List (List Val))->Nat->List (List Val)->List (List Val)
 |[],_,l=>l
 |rs::t,off,l=>lev t (off+yGw rs) (l.flatMap λc=>rs.map λr=>yPa c off r)
def zAq :List (List (List Val))->List Val->List (List Val)
 |[],f=>[f]
 |rs::t,f=>rs.flatMap λr=>zAq t (f++r)
theorem zPd :∀(ds:List (List (List Val))) (off:Nat) (l:List (List Val)),lev ds off l=l.flatMap λc=>lev ds off [c]
 |[],_,l=>by simp[lev]
 | rs::t,off,l=>by
  have h:∀c,lev (rs::t) off [c]=(rs.map λr=>yPa c off r).flatMap λc=>lev t (off+yGw rs) [c]:=λc=>by
   show lev t (off+yGw rs) _=_
   rw[zPd t];simp
  simp only[h]
  show lev t (off+yGw rs) _=_
  rw[zPd t,List.flatMap_assoc]
theorem yQi (f r:List Val) (n:Nat) (h:r.length<=n):yPa (f++List.replicate n nul) f.length r=f++r++List.replicate (n-r.length) nul:=by
 unfold yPa
 rw[List.take_left,List.drop_append]
 simp
def yBs (ds:List (List (List Val))):Nat:=(ds.map yGw).sum
theorem zXk :∀(ds:List (List (List Val))) (f:List Val) (n:Nat),(∀rs∈ds,∀r∈rs,r.length=yGw rs)->yBs ds=n->lev ds f.length [f++List.replicate n nul]=zAq ds f
 |[],f,n,_,hn=>by
  have:n=0:=by simpa [yBs] using hn.symm
  subst this;simp[lev,zAq]
 |rs::t,f,n,hw,hn=>by
  show lev t _ _=_
  rw[zPd]
  show _=rs.flatMap λr=>zAq t (f++r)
  simp only[List.flatMap_cons,List.flatMap_nil,List.append_nil]
  rw[List.flatMap_map]
  have hn':yGw rs+yBs t=n:=by simpa [yBs] using hn
  apply flatMap_congr'
  intro r hr
  have hl:=hw rs (by simp) r hr
  rw[yQi f r n (by omega),show f.length+yGw rs=(f++r).length by simp;omega]
  exact zXk t (f++r) (n-r.length) (λrs h=>hw rs (by simp[h])) (by omega)
where
 flatMap_congr' {l:List (List Val)} {g h:List Val->List (List Val)} (e:∀x∈l,g x=h x):l.flatMap g=l.flatMap h:=by
  induction l with
  |nil=>rfl
  |cons a t ih=>simp only[List.flatMap_cons];rw[e a (by simp),ih λx hx=>e x (by simp[hx])]
theorem zSf :∀(ds:List (List (List Val))) (f:List Val),[]∈ds->zAq ds f=[]
 |[],_,h=>by cases h
 | rs::t,f,h=>by
  rcases List.mem_cons.1 h with h|h
  ·subst h;rfl
  ·show (rs.flatMap λr=>zAq t (f++r))=[]
   rw[List.flatMap_eq_nil_iff]
   exact λr _=>zSf t (f++r) h
theorem zFn :∀(ds:List (List (List Val))) (f:List Val) (k:Nat),(∀rs∈ds,rs.length<=k)->(zAq ds f).length<=k ^ ds.length
 |[],_,_,_=>by simp[zAq]
 | rs::t,f,k,h=>by
  have h1:∀(l:List (List Val)),(l.flatMap λr=>zAq t (f++r)).length<=l.length*k ^ t.length:=λl=>by
   induction l with
   |nil=>simp
   |cons a l ih=>
    have:=zFn t (f++a) k λrs h'=>h rs (by simp[h'])
    rw[List.flatMap_cons,List.length_append,List.length_cons,Nat.succ_mul]
    omega
  show (rs.flatMap λr=>zAq t (f++r)).length<=k ^ (t.length+1)
  have h2:=h1 rs
  have h3:=h rs (by simp)
  calc _<=rs.length*k ^ t.length:=h2
   _<=k*k ^ t.length:=Nat.mul_le_mul_right _ h3
   _=k ^ (t.length+1):=by rw[Nat.pow_succ,Nat.mul_comm]
end Go.Eng
