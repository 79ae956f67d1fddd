/- A part of the proof: see the last text. -/
import Derived.Test.YtggiaoaballdgaaGreatDoorJ10
import Derived.Test.YtggiaoaballdgaaGreatDoorJ8
import Derived.Test.YtggiaoaballdgaaGreatDoorJ4
import Derived.Test.YtggiaoaballdgaaGreatDoorJ12
set_option linter.unusedSimpArgs false
set_option linter.unusedVariables false
namespace Go.Eng
open Go Go.Proofs
open Nat renaming reduceAdd → ra, reduceMul → rb, reduceSub → rc
set_option maxRecDepth 20000
set_option maxHeartbeats 32000000
attribute [local irreducible] wpI xU
variable {G:Nat->Option (List D)}
def vD (v:Val):D:=.agg [.int .i64 v.k,.int .i64 v.n,.str v.s]
@[go_sem] theorem zBg (v:Val):vD v=.agg [.int .i64 v.k,.int .i64 v.n,.str v.s]:=rfl
theorem yW {g:Nat->Nat->Nat->Nat->D} (v:Val):zF g (vD v)=vD v:=rfl
@[go_sem] theorem yEo {g:Nat->Nat->Nat->Nat->D} (k:Nat) (s:Sl Val):zF g (sl k vD s)=sl k vD s:=xL k vD s yW
def prB (c:UInt8):Bool:=!(decide ((c.toNat:Int)<32)||decide ((126:Int)<c.toNat))
theorem zRk (s:Str):s.all prB=zJo s:=by
 unfold zJo
 congr 1
 funext c
 unfold prB
 have h1:(32:UInt8)<=c↔32<=c.toNat:=Iff.rfl
 have h2:c<=(126:UInt8)↔c.toNat<=126:=Iff.rfl
 rw[Bool.eq_iff_iff]
 simp only[Bool.not_eq_true',Bool.or_eq_false_iff,decide_eq_false_iff_not,Bool.and_eq_true,decide_eq_true_eq,h1,h2]
 omega
theorem yJs (s:Str) (hlt:s.length<4611686018427387904):zA (XG G) TT 203 [.str s]=some (.bool (zJo s&&decide ((s.length:Int)<=16))):=by
 rw[<-zRk]
 refine zD T203 rfl (by simp only[go_sem]) ?_
 unfold Tryz.f203 xJb
 simp only[Option.getD_some]
 simp +decide only[go_sem]
 refine gw trivial ?_
 refine lpC (T:=Nat) [0,5,6] (λk=>[(6,.int .i64 (k:Int))]) (λ_=>[]) (λ_=>⟨[],[]⟩) (λk=>k<=s.length/\(s.take k).all prB=true) (λk=>s.length-k) 0 (by simp) ?_
 rintro k ⟨hk,hP⟩
 by_cases h:k<s.length
 ·obtain⟨l_x,x,g_x,w_x⟩:=elm (L:=s) (k:=k) (by assumption) (by omega)
  have hx:x∈s:=List.mem_of_getElem? g_x
  cases c1:(decide ((x.toNat:Int)<32))
  ·cases c2:(decide ((126:Int)<x.toNat))
   ·refine gw (an5 l_x g_x w_x c1 c2) ?_
    refine⟨k+1,by simp +decide only[go_sem]<;>rfl,⟨by omega,?_⟩,by omega⟩
    rw[List.take_add_one,g_x,List.all_append,hP]
    simp only[Option.toList_some,List.all_cons,List.all_nil,prB,c1,c2];rfl
   ·refine gw (an5 l_x g_x w_x c1 c2) ?_
    simp +decide only[go_sem]
    have:s.all prB=false:=List.all_eq_false.2 ⟨x,hx,by simp only[prB,c1,c2];decide⟩
    rw[this];rfl
  ·refine gw (an4 l_x g_x w_x c1) ?_
   simp +decide only[go_sem]
   have:s.all prB=false:=List.all_eq_false.2 ⟨x,hx,by simp[prB,c1]⟩
   rw[this];rfl
 ·have l_x:((k:Int)<((s).length:Int))=False:=by simp;omega
  rw[List.take_of_length_le (by omega)] at hP
  refine gw l_x ?_
  simp +decide only[go_sem]
  rw[hP];rfl
def zQc (v:Val):Bool:=bif v.k==0 then v.n==0&&v.s==[] else bif v.k==1 then v.s==[] else bif v.k==2 then v.n==0&&(zJo v.s&&decide ((v.s.length:Int)<=16)) else false
theorem zWm (v:Val) (hlt:v.s.length<4611686018427387904):zA (XG G) TT 143 [vD v]=some (.bool (zQc v)):=by
 refine zD T143 rfl (by simp only[go_sem]) ?_
 unfold Tryz.f143 xKg
 simp only[Option.getD_some]
 have hp:=yJs (G:=G) v.s hlt
 simp +decide only[go_sem]
 cases k0:(v.k==0)
 ·cases k1:(v.k==1)
  ·cases k2:(v.k==2)
   ·refine gw (an4 hp k0 k1 k2) ?_
    simp +decide only[go_sem]
    simp only[k0,k1,k2,zQc,cond_false]
   ·cases n0:(v.n==0)
    ·refine gw (an5 hp k0 k1 k2 n0) ?_
     simp +decide only[go_sem]
     simp only[k0,k1,k2,n0,zQc,cond_true,cond_false,Bool.false_and]
    ·refine gw (an5 hp k0 k1 k2 n0) ?_
     simp +decide only[go_sem]
     simp only[k0,k1,k2,n0,zQc,cond_true,cond_false,Bool.true_and]
  ·refine gw (an3 hp k0 k1) ?_
   simp +decide only[go_sem]
   simp only[k0,k1,zQc,cond_true,cond_false]
 ·refine gw (an hp k0) ?_
  simp +decide only[go_sem]
  simp only[k0,zQc,cond_true]
theorem yZn (v:Val) (hlt:v.s.length<4611686018427387904):zA (XG G) TT 142 [vD v]=some (.bool (!zQc v)):=by
 refine zD T142 rfl (by simp only[go_sem]) ?_
 unfold Tryz.f142 xKh
 simp only[Option.getD_some]
 have hp:=zWm (G:=G) v hlt
 simp only[zBg] at hp
 simp +decide only[go_sem]
 refine gw hp ?_
 simp +decide only[go_sem]
theorem yZm (v:Val) (hlt:v.s.length<4611686018427387904):zA (XG G) TT 150 [vD v]=some (.bool (!zQc v)):=by
 refine zD T150 rfl (by simp only[go_sem]) ?_
 unfold Tryz.f150 xKb
 simp only[Option.getD_some]
 have hp:=zWm (G:=G) v hlt
 simp only[zBg] at hp
 simp +decide only[go_sem]
 refine gw hp ?_
 simp +decide only[go_sem]
theorem yZy (s:Sl Val) (g:Nat) (cap:List D) (m:Mem) (p:Val->Bool) (hg:(g<100000)=True) (hp:∀x∈s.items,zG (XG G) TT g m (vD x::cap)=some (.bool (p x),m)) :
  zG (XG G) TT 202 m [sl 3 vD s,.func g cap]=some (yUw (fnd p 0 s.items),m):=by
 refine yB T202 rfl ?_
 unfold Tryz.f202 xJc
 simp only[Option.getD_some]
 have hlt:=s.lt
 simp +decide only[go_sem,ra]
 refine gw hg ?_
 refine lpC (T:=Nat) [0,1,7,8] (λk=>[(8,.int .i64 (k:Int))]) (λ_=>[]) (λ_=>m) (λk=>k<=s.items.length/\fnd p k (s.items.drop k)=fnd p 0 s.items) (λk=>s.items.length-k) 0 (by simp) ?_
 rintro k ⟨hk,hP⟩
 by_cases h:k<s.items.length
 ·obtain⟨l_x,x,g_x,w_x⟩:=elm (L:=s.items) (k:=k) (by assumption) (by omega)
  rw[zCk g_x,fnd] at hP
  have hc:=hp x (List.mem_of_getElem? g_x)
  simp only[zBg] at hc
  cases c:(p x)
  ·rw[c] at hP
   refine gw (an6 hg l_x g_x w_x hc c) ?_
   exact⟨k+1,by simp +decide only[go_sem]<;>rfl,⟨by omega,hP⟩,by omega⟩
  ·rw[c] at hP
   refine gw (an6 hg l_x g_x w_x hc c) ?_
   simp +decide only[go_sem]
   rw[<-hP]
   exact⟨rfl,trivial⟩
 ·have l_x:((k:Int)<((s.items).length:Int))=False:=by simp;omega
  rw[List.drop_eq_nil_of_le (by omega),fnd] at hP
  refine gw (an hg l_x) ?_
  simp +decide only[go_sem]
  rw[<-hP]
  exact⟨rfl,trivial⟩
theorem yNr (s:Sl Val) (g:Nat) (cap:List D) (m:Mem) (p:Val->Bool) (hg:(g<100000)=True) (hp:∀x∈s.items,zG (XG G) TT g m (vD x::cap)=some (.bool (p x),m)) :
  zG (XG G) TT 141 m [sl 3 vD s,.func g cap]=some (.bool (s.items.any p),m):=by
 refine yB T141 rfl ?_
 unfold Tryz.f141 xKi
 simp only[Option.getD_some]
 have hc:=yZy s g cap m p hg hp
 rw[<-zUf p s.items 0]
 simp +decide only[go_sem,ra]
 refine gw (an hg hc) ?_
 generalize fnd p 0 s.items=o at *
 cases o with
 |none=>
  simp only[yUw] at hc
  refine gw (an hg hc) ?_
  simp +decide only[go_sem]
  exact⟨rfl,trivial⟩
 |some j=>
  simp only[yUw] at hc
  repeat (first|(with_reducible first|refine q1 ?_|refine q2 ?_|refine q3 ?_|refine q4 ?_|refine q5 ?_|refine q6 ?_|refine q7 ?_|refine q8 ?_|refine q9 ?_|refine q10 ?_|refine q11 ?_|refine q12 (by decide) ?_)|((first|with_reducible refine q13 ?_|((with_reducible refine q14 ?_ ?_);focus exact rfl));intro K hK;simp +decide only[go_sem,hc,zMx];with_reducible refine hK _ ?_;clear hK K)|(with_reducible refine q15 ?_;intro K J hK hJ;simp +decide only[go_sem,ra,rb,rc,hg,hc,zMx];(with_reducible first|refine hK ?_|refine hJ ?_);clear hK hJ K J))
  simp +decide only[go_sem]
  exact⟨rfl,trivial⟩
theorem yNb (a:Int):zA (XG G) TT 158 [.int .i64 a]=some (.bool false):=by
 refine zD T158 rfl (by simp only[go_sem]) ?_
 unfold Tryz.f158 xJy
 simp only[Option.getD_some]
 simp +decide only[go_sem]
 refine gw trivial ?_
 simp +decide only[go_sem]
theorem yNa (a:Int):zA (XG G) TT 183 [.int .i64 a]=some (.bool false):=by
 refine zD T183 rfl (by simp only[go_sem]) ?_
 unfold Tryz.f183 xJg
 simp only[Option.getD_some]
 simp +decide only[go_sem]
 refine gw trivial ?_
 simp +decide only[go_sem]
theorem yMz (a:Str):zA (XG G) TT 289 [.str a]=some (.bool false):=by
 refine zD T289 rfl (by simp only[go_sem]) ?_
 unfold Tryz.f289 xHx
 simp only[Option.getD_some]
 simp +decide only[go_sem]
 refine gw trivial ?_
 simp +decide only[go_sem]
theorem yPi (a b:Int):zA (XG G) TT 97 [.int .i64 a,.int .i64 b]=some (.int .i64 (uG a b)):=by
 refine zD T97 rfl (by simp only[go_sem]) ?_
 unfold Tryz.f97 F97
 simp only[Option.getD_some]
 have zq1:=yNb (G:=G) a
 have zq2:=yNb (G:=G) b
 simp +decide only[go_sem,ra]
 cases c1:(decide (a<b))
 ·cases c2:(decide (b<a))
  ·refine gw (an4 zq1 zq2 c1 c2) ?_
   simp +decide only[go_sem]
   simp only[decide_eq_false_iff_not] at c1 c2
   simp only[uG,c1,c2,if_false]
  ·refine gw (an4 zq1 zq2 c1 c2) ?_
   simp +decide only[go_sem]
   simp only[decide_eq_false_iff_not,decide_eq_true_eq] at c1 c2
   simp only[uG,c1,c2,if_false,if_true]
 ·refine gw (an3 zq1 zq2 c1) ?_
  simp +decide only[go_sem]
  simp only[decide_eq_true_eq] at c1
  simp only[uG,c1,if_true]
theorem xAy (a b:Int):zA (XG G) TT 136 [.int .i64 a,.int .i64 b]=some (.int .i64 (uG a b)):=by
 refine zD T136 rfl (by simp only[go_sem]) ?_
 unfold Tryz.f136 xKj
 simp only[Option.getD_some]
 have zq3:=yNa (G:=G) a
 have zq4:=yNa (G:=G) b
 simp +decide only[go_sem,ra]
 cases c1:(decide (a<b))
 ·cases c2:(decide (b<a))
  ·refine gw (an4 zq3 zq4 c1 c2) ?_
   simp +decide only[go_sem]
   simp only[decide_eq_false_iff_not] at c1 c2
   simp only[uG,c1,c2,if_false]
  ·refine gw (an4 zq3 zq4 c1 c2) ?_
   simp +decide only[go_sem]
   simp only[decide_eq_false_iff_not,decide_eq_true_eq] at c1 c2
   simp only[uG,c1,c2,if_false,if_true]
 ·refine gw (an3 zq3 zq4 c1) ?_
  simp +decide only[go_sem]
  simp only[decide_eq_true_eq] at c1
  simp only[uG,c1,if_true]
def yXg (a b:Str):Int:=bif Op.bytesLess a b then -1 else bif a==b then 0 else 1
theorem yNt (a b:Str):zA (XG G) TT 263 [.str a,.str b]=some (.int .i64 (yXg a b)):=by
 refine zD T263 rfl (by simp only[go_sem]) ?_
 unfold Tryz.f263 xIc
 simp only[Option.getD_some]
 have zq5:=yMz (G:=G) a
 have zq6:=yMz (G:=G) b
 have b1:(false||false)=false:=rfl
 have b2:(false||true)=true:=rfl
 have b3:(!false)=true:=rfl
 have b4:(!true)=false:=rfl
 simp +decide only[go_sem,ra]
 cases c1:(Op.bytesLess a b)
 ·cases c2:(a==b)
  ·refine gw (an8 zq5 zq6 b1 b2 b3 b4 c1 c2) ?_
   simp +decide only[go_sem]
   simp only[yXg,c1,c2,cond_false]
  ·refine gw (an8 zq5 zq6 b1 b2 b3 b4 c1 c2) ?_
   simp +decide only[go_sem]
   simp only[yXg,c1,c2,cond_false,cond_true]
 ·refine gw (an7 zq5 zq6 b1 b2 b3 b4 c1) ?_
  simp +decide only[go_sem]
  simp only[yXg,c1,cond_true]
theorem xAq (a b:Str) (m:Mem):zG (XG G) TT 181 m [.str a,.str b]=some (.int .i64 (zCg a b),m):=zPq (by kernel_rfl) rfl rfl
theorem yNu (a b:Str):zA (XG G) TT 133 [.str a,.str b]=some (.int .i64 (zCg a b)):=by
 refine zD T133 rfl (by simp only[go_sem]) ?_
 unfold Tryz.f133 xKk
 simp only[Option.getD_some]
 have zq7:=xAq (G:=G) a b
 simp +decide only[go_sem,ra]
 refine gw zq7 ?_
 simp +decide only[go_sem]
theorem yDo (l:Sl I64):zA (XG G) TT 132 [sl 1 I l]=some (.int .i64 ((l.items.find? λn=>n.1 != 0).elim 0 (·.1))):=by
 refine zD T132 rfl (by simp only[go_sem]) ?_
 unfold Tryz.f132 xKl
 simp only[Option.getD_some]
 have hlt:=l.lt
 simp +decide only[go_sem]
 refine gw trivial ?_
 refine lpC (T:=Nat) [3,6,7,8] (λk=>[(8,.int .i64 (k:Int))]) (λ_=>[]) (λ_=>⟨[],[]⟩) (λk=>k<=l.items.length/\(l.items.drop k).find? (λn=>n.1 != 0)=l.items.find? (λn=>n.1 != 0)) (λk=>l.items.length-k) 0 (by simp) ?_
 rintro k ⟨hk,hP⟩
 by_cases h:k<l.items.length
 ·obtain⟨l_x,x,g_x,w_x⟩:=elm (L:=l.items) (k:=k) (by assumption) (by omega)
  rw[List.drop_eq_getElem_cons h,List.find?_cons] at hP
  have hx:l.items[k]=x:=by rw[List.getElem?_eq_getElem h] at g_x;cases g_x;rfl
  rw[hx] at hP
  cases c:(x.1 != 0)
  ·rw[c] at hP
   refine gw (an4 l_x g_x w_x c) ?_
   exact⟨k+1,by simp +decide only[go_sem]<;>rfl,⟨by omega,hP⟩,by omega⟩
  ·rw[c] at hP
   refine gw (an4 l_x g_x w_x c) ?_
   simp +decide only[go_sem]
   rw[<-hP];rfl
 ·have l_x:((k:Int)<((l.items).length:Int))=False:=by simp;omega
  rw[List.drop_eq_nil_of_le (by omega)] at hP
  refine gw l_x ?_
  simp +decide only[go_sem]
  rw[<-hP];rfl
def mkJ (n:Int) (h:-9223372036854775808<=n/\n<=9223372036854775807):I64:=⟨n,h⟩
theorem zUi :∀l:List I64,((l.find? λn=>n.1 != 0).elim 0 (·.1))=l.foldr (λ(n:I64) (r:Int)=>if n.1=0 then r else n.1) 0
 |[]=>rfl
 |a::l=>by
  rw[List.find?_cons,List.foldr_cons,<-zUi l]
  by_cases h:a.1=0
  ·rw[if_pos h,show (a.1 != 0)=false by simp[h]]
  ·rw[if_neg h,show (a.1 != 0)=true by simp[h]];rfl
theorem or132 (a b c:Int) (ha:-9223372036854775808<=a/\a<=9223372036854775807) (hb:-9223372036854775808<=b/\b<=9223372036854775807) (hc:-9223372036854775808<=c/\c<=9223372036854775807):zA (XG G) TT 132 [.slice none 1 [.int .i64 a,.int .i64 b,.int .i64 c]]=some (.int .i64 (if a=0 then if b=0 then c else b else a)):=by
 have h:=yDo (G:=G) ⟨some [mkJ a ha,mkJ b hb,mkJ c hc],by show (3:Nat)<4611686018427387904;decide⟩
 refine h.trans ?_
 rw[zUi]
 show some (D.int _ (if a=0 then if b=0 then if c=0 then 0 else c else b else a))=_
 by_cases h3:c=0
 ·simp[h3]
 ·simp[h3]
theorem or132' (a b:Int) (ha:-9223372036854775808<=a/\a<=9223372036854775807) (hb:-9223372036854775808<=b/\b<=9223372036854775807):zA (XG G) TT 132 [.slice none 1 [.int .i64 a,.int .i64 b]]=some (.int .i64 (if a=0 then b else a)):=by
 have h:=yDo (G:=G) ⟨some [mkJ a ha,mkJ b hb],by show (2:Nat)<4611686018427387904;decide⟩
 refine h.trans ?_
 rw[zUi]
 show some (D.int _ (if a=0 then if b=0 then 0 else b else a))=_
 by_cases h3:b=0
 ·simp[h3]
 ·simp[h3]
theorem zPn (a b:Int):-9223372036854775808<=uG a b/\uG a b<=9223372036854775807:=by rcases yLj a b with h|h|h<;>rw[h]<;>decide
theorem zYh (a b:Str):-9223372036854775808<=zCg a b/\zCg a b<=9223372036854775807:=by rcases zPm a b with h|h|h<;>rw[h]<;>decide
theorem xPi (x y:Val):zA (XG G) TT 80 [vD x,vD y]=some (.int .i64 (zTe x y)):=by
 refine zD T80 rfl (by simp only[go_sem]) ?_
 unfold Tryz.f80 F80
 simp only[Option.getD_some]
 have hor:=or132 (G:=G) (uG x.k y.k) (uG x.n y.n) (zCg x.s y.s) (zPn ..) (zPn ..) (zYh ..)
 have zq8:=xAy (G:=G) x.k y.k
 have zq9:=yPi (G:=G) x.n y.n
 have zq10:=yNu (G:=G) x.s y.s
 simp +decide only[go_sem,ra]
 refine gw (an4 zq8 zq9 zq10 hor) ?_
 simp +decide only[go_sem]
 simp only[zTe,yHa]
theorem xPj (x y:Sl Val) (m:Mem):zG (XG G) TT 79 m [sl 3 vD x,sl 3 vD y,.func 80 []]=some (.int .i64 (yZ x.items y.items),m):=by
 refine yB T79 rfl ?_
 unfold Tryz.f79 F79
 simp only[Option.getD_some]
 have hlt:=x.lt
 have hlty:=y.lt
 simp +decide only[go_sem,ra]
 refine gw trivial ?_
 refine lpC (T:=Nat) [0,1,2,11,12,13] (λk=>[(13,.int .i64 (k:Int))]) (λ_=>[]) (λ_=>m) (λk=>k<=x.items.length/\yZ (x.items.drop k) (y.items.drop k)=yZ x.items y.items) (λk=>x.items.length-k) 0 (by simp) ?_
 rintro k ⟨hk,hP⟩
 by_cases h:k<x.items.length
 ·obtain⟨l_a,a,g_a,w_a⟩:=elm (L:=x.items) (k:=k) (by assumption) (by omega)
  rw[List.drop_eq_getElem_cons h] at hP
  have hx:x.items[k]=a:=by rw[List.getElem?_eq_getElem h] at g_a;cases g_a;rfl
  rw[hx] at hP
  by_cases h2:k<y.items.length
  ·have l2:((y.items.length:Int)<=(k:Int))=False:=eq_false (by omega)
   obtain⟨b,g_b⟩:∃b,y.items[k]?=some b:=⟨_,List.getElem?_eq_getElem h2⟩
   rw[List.drop_eq_getElem_cons h2] at hP
   have hy:y.items[k]=b:=by rw[List.getElem?_eq_getElem h2] at g_b;cases g_b;rfl
   rw[hy,yZ] at hP
   have hc:=xPi (G:=G) a b
   simp only[zBg] at hc
   cases c:(zTe a b != 0)
   ·rw[if_pos (by simpa using c)] at hP
    refine gw (an7 l_a g_a w_a l2 g_b hc c) ?_
    exact⟨k+1,by simp +decide only[go_sem]<;>rfl,⟨by omega,hP⟩,by omega⟩
   ·rw[if_neg (by simpa using c)] at hP
    refine gw (an7 l_a g_a w_a l2 g_b hc c) ?_
    simp +decide only[go_sem]
    rw[<-hP]
    exact⟨rfl,trivial⟩
  ·have l2:((y.items.length:Int)<=(k:Int))=True:=eq_true (by omega)
   rw[List.drop_eq_nil_of_le (by omega:y.items.length<=k),yZ] at hP
   refine gw (an4 l_a g_a w_a l2) ?_
   simp +decide only[go_sem]
   rw[<-hP]
   exact⟨rfl,trivial⟩
 ·have l_e:((k:Int)<((x.items).length:Int))=False:=by simp;omega
  rw[List.drop_eq_nil_of_le (by omega:x.items.length<=k)] at hP
  by_cases h2:k<y.items.length
  ·have l2:((x.items.length:Int)<(y.items.length:Int))=True:=eq_true (by omega)
   rw[List.drop_eq_getElem_cons h2,yZ] at hP
   refine gw (an l_e l2) ?_
   simp +decide only[go_sem]
   rw[<-hP]
   exact⟨rfl,trivial⟩
  ·have l2:((x.items.length:Int)<(y.items.length:Int))=False:=eq_false (by omega)
   rw[List.drop_eq_nil_of_le (by omega:y.items.length<=k),yZ] at hP
   refine gw (an l_e l2) ?_
   simp +decide only[go_sem]
   rw[<-hP]
   exact⟨rfl,trivial⟩
theorem xPk (x y:Sl Val):zA (XG G) TT 43 [sl 3 vD x,sl 3 vD y]=some (.int .i64 (yZ x.items y.items)):=by
 refine zD T43 rfl (by simp only[go_sem]) ?_
 unfold Tryz.f43 F43
 simp only[Option.getD_some]
 have zq11:=xPj (G:=G) x y
 simp +decide only[go_sem,ra]
 refine gw zq11 ?_
 simp +decide only[go_sem]
theorem yZr (m:Mem):zG (XG G) TT 170 m [.int .i64 16]=some (.ptr (m.boxes.length+1) 0,⟨m.boxes++[[.nil,.nil,.nil]]++[[.ptr m.boxes.length 0,.int .i64 16,.int .i64 0]],m.toks⟩):=by
 refine yB T170 rfl ?_
 unfold Tryz.f170 xJp
 simp only[Option.getD_some]
 simp +decide only[go_sem]
 refine gw trivial ?_
 simp +decide only[go_sem]
 simp
theorem yZq (m:Mem):zG (XG G) TT 246 m [.int .i64 16]=some (.ptr (m.boxes.length+1) 0,⟨m.boxes++[[.nil,.nil,.nil]]++[[.ptr m.boxes.length 0,.int .i64 16,.int .i64 0]],m.toks⟩):=by
 refine yB T246 rfl ?_
 unfold Tryz.f246 xIn
 simp only[Option.getD_some]
 simp +decide only[go_sem]
 refine gw trivial ?_
 simp +decide only[go_sem]
 simp
theorem zGv (k:Nat) (h:k<4611686018427387904):IntKind.u64.wrap (k:Int)=(k:Int):=by rw[wrap_u64'];omega
theorem vV (k:Nat) (h:k<4611686018427387904):IntKind.i64.wrap (k:Int)=(k:Int):=by rw[yD _ (by omega)]
theorem zDp (k:Nat):(k:Int).fdiv (2 ^ min (Int.toNat 1) 64)=((k / 2:Nat):Int):=by
 rw[show (2:Int) ^ min (Int.toNat 1) 64=2 from rfl,Int.fdiv_eq_ediv_of_nonneg _ (by decide)];omega
theorem xPl (m:Mem) (d:D) (ks:List Str) (x:Str) (hd:qR m d (ks.map D.str)) (hl:ks.length<=100000) :
  ∃(i:Nat) (b:Bool),zG (XG G) TT 262 m [d,.str x,.func 263 []]=some (.tuple [.int .i64 (i:Int),.bool b],m)/\i<=ks.length/\(b=true->i<ks.length):=by
 suffices h:∃v m',zG (XG G) TT 262 m [d,.str x,.func 263 []]=some (v,m')/\∃(i:Nat) (b:Bool),v=.tuple [.int .i64 (i:Int),.bool b]/\m'=m/\i<=ks.length/\(b=true->i<ks.length) by
  obtain⟨v,m',h1,i,b,rfl,rfl,h2,h3⟩:=h;exact⟨i,b,h1,h2,h3⟩
 refine zO T262 rfl ?_
 unfold Tryz.f262 xId
 simp only[Option.getD_some]
 have hml:(ks.map D.str).length=ks.length:=List.length_map ..
 rcases hd.inv with⟨rfl,hn⟩|⟨id,rfl,hb,hn,ho⟩
 ·have hn:ks=[]:=List.map_eq_nil_iff.1 hn
  subst hn
  simp +decide only[go_sem,ra]
  refine gw trivial ?_
  refine lpC (T:=Unit) [0,1,2,8,9,10] (λ_=>[]) (λ_=>[]) (λ_=>m) (λ_=>True) (λ_=>0) () (by simp) ?_
  rintro _ _
  have l1:((0:Int)<((0:Nat):Int))=False:=eq_false (by omega)
  refine gw l1 ?_
  simp +decide only[go_sem]
  exact⟨0,false,rfl,trivial,Nat.le_refl _,λh=>by cases h⟩
 ·rw[hml]
  simp +decide only[go_sem,ra]
  refine gw (an hb ho) ?_
  refine lpC (T:=Nat×Nat) [0,1,2,8,9,10] (λp=>[(9,.int .i64 (p.1:Int)),(10,.int .i64 (p.2:Int))]) (λ_=>[]) (λ_=>m) (λp=>p.1<=p.2/\p.2<=ks.length) (λp=>p.2-p.1) (0,ks.length) (by simp) ?_
  rintro ⟨i,j⟩ ⟨hi,hj⟩
  simp only at hi hj ⊢
  by_cases h:i<j
  ·have l1:((i:Int)<(j:Int))=True:=eq_true (by omega)
   have e0:(i:Int)+(j:Int)=((i+j:Nat):Int):=by omega
   have e1:=vV (i+j) (by omega)
   have e2:=zGv (i+j) (by omega)
   have e3:=zDp (i+j)
   have e4:=vV ((i+j) / 2) (by omega)
   have e5:=yU ((i+j) / 2) (by omega)
   have hh1:i<=(i+j) / 2:=by omega
   have hh2:(i+j) / 2<j:=by omega
   generalize (i+j) / 2=h at *
   have l2:((h:Int)<(ks.length:Int))=True:=eq_true (by omega)
   obtain⟨y,hy⟩:∃y,ks[h]?=some y:=⟨_,List.getElem?_eq_getElem (by omega)⟩
   have hy':(ks.map D.str)[h]?=some (.str y):=by rw[List.getElem?_map,hy];rfl
   have hc:=yNt (G:=G) y x
   cases c:(decide (yXg y x<0))
   ·refine gw (an9 hb ho l1 e0 e1 e2 e3 e4 (an5 e5 l2 hy' hc c)) ?_
    exact⟨(i,h),by simp +decide only[go_sem]<;>rfl,by simp only;omega,by simp only;omega⟩
   ·refine gw (an9 hb ho l1 e0 e1 e2 e3 e4 (an5 e5 l2 hy' hc c)) ?_
    exact⟨(h+1,j),by simp +decide only[go_sem]<;>rfl,by simp only;omega,by simp only;omega⟩
  ·have l1:((i:Int)<(j:Int))=False:=eq_false (by omega)
   by_cases h2:i<ks.length
   ·have l2:((i:Int)<(ks.length:Int))=True:=eq_true (by omega)
    obtain⟨y,hy⟩:∃y,ks[i]?=some y:=⟨_,List.getElem?_eq_getElem (by omega)⟩
    have hy':(ks.map D.str)[i]?=some (.str y):=by rw[List.getElem?_map,hy];rfl
    have hc:=yNt (G:=G) y x
    refine gw (an6 hb ho l1 l2 hy' hc) ?_
    simp +decide only[go_sem]
    exact⟨i,_,rfl,trivial,by omega,λ_=>h2⟩
   ·have l2:((i:Int)<(ks.length:Int))=False:=eq_false (by omega)
    refine gw (an4 hb ho l1 l2) ?_
    simp +decide only[go_sem]
    exact⟨i,false,rfl,trivial,by omega,λh=>by cases h⟩
theorem xPm (m:Mem) (d:D) (ks:List Int) (x:Int) (hd:qR m d (ks.map (D.int .i64))) (hl:ks.length<=100000) (hx:∀y∈ks,y<x) :
  zG (XG G) TT 259 m [d,.int .i64 x,.func 97 []]=some (.tuple [.int .i64 (ks.length:Int),.bool false],m):=by
 refine yB T259 rfl ?_
 unfold Tryz.f259 xIe
 simp only[Option.getD_some]
 have hml:(ks.map (D.int .i64)).length=ks.length:=List.length_map ..
 rcases hd.inv with⟨rfl,hn⟩|⟨id,rfl,hb,hn,ho⟩
 ·have hn:ks=[]:=List.map_eq_nil_iff.1 hn
  subst hn
  simp +decide only[go_sem,ra]
  refine gw trivial ?_
  refine lpC (T:=Unit) [0,1,2,8,9,10] (λ_=>[]) (λ_=>[]) (λ_=>m) (λ_=>True) (λ_=>0) () (by simp) ?_
  rintro _ _
  have l1:((0:Int)<((0:Nat):Int))=False:=eq_false (by omega)
  refine gw l1 ?_
  simp +decide only[go_sem]
  try exact⟨rfl,trivial⟩
 ·rw[hml]
  simp +decide only[go_sem,ra]
  refine gw (an hb ho) ?_
  refine lpC (T:=Nat) [0,1,2,8,9,10] (λi=>[(9,.int .i64 (i:Int))]) (λ_=>[]) (λ_=>m) (λi=>i<=ks.length) (λi=>ks.length-i) 0 (by simp) ?_
  rintro i hi
  by_cases h:i<ks.length
  ·have l1:((i:Int)<(ks.length:Int))=True:=eq_true (by omega)
   have e0:(i:Int)+(ks.length:Int)=((i+ks.length:Nat):Int):=by omega
   have e1:=vV (i+ks.length) (by omega)
   have e2:=zGv (i+ks.length) (by omega)
   have e3:=zDp (i+ks.length)
   have e4:=vV ((i+ks.length) / 2) (by omega)
   have e5:=yU ((i+ks.length) / 2) (by omega)
   have hh1:i<=(i+ks.length) / 2:=by omega
   have hh2:(i+ks.length) / 2<ks.length:=by omega
   generalize (i+ks.length) / 2=h at *
   have l2:((h:Int)<(ks.length:Int))=True:=eq_true (by omega)
   obtain⟨y,hy⟩:∃y,ks[h]?=some y:=⟨_,List.getElem?_eq_getElem (by omega)⟩
   have hy':(ks.map (D.int .i64))[h]?=some (.int .i64 y):=by rw[List.getElem?_map,hy];rfl
   have hc:=yPi (G:=G) y x
   have hlt:y<x:=hx y (List.mem_of_getElem? hy)
   have hc1:uG y x = -1:=by unfold uG;rw[if_pos hlt]
   rw[hc1] at hc
   refine gw (an9 hb ho l1 e0 e1 e2 e3 e4 (an4 e5 l2 hy' hc)) ?_
   exact⟨h+1,by simp +decide only[go_sem]<;>rfl,by omega,by omega⟩
  ·have l1:((i:Int)<(ks.length:Int))=False:=eq_false (by omega)
   obtain rfl:i=ks.length:=by omega
   refine gw (an3 hb ho l1) ?_
   simp +decide only[go_sem]
   try exact⟨rfl,trivial⟩
theorem yRr (m:Mem) (r:Nat) (kd vd:D) (ks:List Str) (x:Str) (hr:m.boxes[r]?=some [kd,vd,.nil]) (hd:qR m kd (ks.map D.str)) (hl:ks.length<=100000) :
  ∃(i:Nat) (b:Bool),zG (XG G) TT 210 m [.ptr r 0,.str x]=some (.tuple [.int .i64 (i:Int),.bool b],m)/\i<=ks.length/\(b=true->i<ks.length):=by
 obtain⟨i,b,hc,h1,h2⟩:=xPl (G:=G) m kd ks x hd hl
 refine⟨i,b,?_,h1,h2⟩
 refine yB T210 rfl ?_
 unfold Tryz.f210 xIz
 simp only[Option.getD_some]
 simp +decide only[go_sem,ra]
 refine gw (an hr hc) ?_
 simp +decide only[go_sem]
 try exact⟨rfl,trivial⟩
theorem zUj (m:Mem) (r:Nat) (kd vd:D) (ks:List Int) (x:Int) (hr:m.boxes[r]?=some [kd,vd,.nil]) (hd:qR m kd (ks.map (D.int .i64))) (hl:ks.length<=100000) (hx:∀y∈ks,y<x) :
  zG (XG G) TT 204 m [.ptr r 0,.int .i64 x]=some (.tuple [.int .i64 (ks.length:Int),.bool false],m):=by
 have hc:=xPm (G:=G) m kd ks x hd hl hx
 refine yB T204 rfl ?_
 unfold Tryz.f204 xJa
 simp only[Option.getD_some]
 simp +decide only[go_sem,ra]
 refine gw (an hr hc) ?_
 simp +decide only[go_sem]
 try exact⟨rfl,trivial⟩
theorem zOp (m:Mem) (r:Nat) (kd vd:D) (hr:m.boxes[r]?=some [kd,vd,.nil]):zG (XG G) TT 146 m [.ptr r 0]=some (.bool true,m):=by
 refine yB T146 rfl ?_
 unfold Tryz.f146 xEs
 simp only[Option.getD_some]
 simp +decide only[go_sem]
 refine gw hr ?_
 simp +decide only[go_sem]
 try exact⟨rfl,trivial⟩
theorem yRc (m:Mem) (r:Nat) (kd vd:D) (hr:m.boxes[r]?=some [kd,vd,.nil]):zG (XG G) TT 148 m [.ptr r 0]=some (.bool true,m):=by
 refine yB T148 rfl ?_
 unfold Tryz.f148 xKd
 simp only[Option.getD_some]
 simp +decide only[go_sem]
 refine gw hr ?_
 simp +decide only[go_sem]
 try exact⟨rfl,trivial⟩
theorem yNh (m:Mem) (s:D) (i:Nat) (v:Int) (d:D) (m':Mem) (h:yBf m s i (.int .i64 v)=some (d,m')):zG (XG G) TT 215 m [s,.int .i64 (i:Int),.slice (some 0) 1 [.int .i64 v]]=some (d,m'):=zPq (by kernel_rfl) rfl h
theorem xAd (m:Mem) (s:D) (i:Nat) (v:Str) (d:D) (m':Mem) (h:yBf m s i (.str v)=some (d,m')):zG (XG G) TT 221 m [s,.int .i64 (i:Int),.slice (some 0) 1 [.str v]]=some (d,m'):=zPq (by kernel_rfl) rfl h
end Go.Eng
