/- A part of the proof: see the last text. -/
import Derived.Test.YtggiaoaballdgaaGreatDoorJ16
import Derived.Test.YtggiaoaballdgaaGreatDoorJ23
set_option linter.unusedSimpArgs false
set_option linter.unusedVariables false
namespace Go.Eng
open Go Go.Proofs
open Nat renaming reduceAdd → ra, reduceMul → rb, reduceSub → rc
set_option maxRecDepth 20000
set_option maxHeartbeats 32000000
attribute [local irreducible] wpI xU
variable {G:Nat->Option (List D)}
theorem yDh (m:Mem) (a b c:Nat) (p:Str) (f:Nat->Bool) (hp:p.length<=1000) (ha:m.boxes[a]?=some [.str p]) (hb:m.boxes[b]?=some [.rsl c 0 (p.length+1) 1]) (hc:m.boxes[c]?=some (bR (p.length+1) f)) (hac:a≠c) (hbc:b≠c) :
  zG (XG G) TT 180 m [.ptr a 0,.ptr b 0]=some (.tuple [],⟨m.boxes.set c (bR (p.length+1) (skF p f p.length)),m.toks⟩):=by
 refine yB T180 rfl ?_
 unfold Tryz.f180 xJi
 simp only[Option.getD_some]
 have hl:c<m.boxes.length:=(List.getElem?_eq_some_iff.1 hc).1
 have r1:∀x,(m.boxes.set c x)[a]?=some [.str p]:=λx=>by rw[List.getElem?_set_ne (λh=>hac h.symm)];exact ha
 have r2:∀x,(m.boxes.set c x)[b]?=some [.rsl c 0 (p.length+1) 1]:=λx=>by rw[List.getElem?_set_ne (λh=>hbc h.symm)];exact hb
 have r3:∀x,(m.boxes.set c x)[c]?=some x:=λx=>by rw[List.getElem?_set_self hl]
 have r4:∀x y,(m.boxes.set c x).set c y=m.boxes.set c y:=λx y=>by rw[List.set_set]
 have r5:(⟨m.boxes.set c (bR (p.length+1) (skF p f 0)),m.toks⟩:Mem)=m:=by
  have:m.boxes.set c (bR (p.length+1) (skF p f 0))=m.boxes:=by
   obtain⟨_,e⟩:=List.getElem?_eq_some_iff.1 hc
   rw[show skF p f 0=f from rfl,<-e];exact List.set_getElem_self hl
  rw[this]
 have h7:=yCq (p.length+1)
 have h8:=zJv (p.length+1)
 simp +decide only[go_sem,ra]
 refine gw (an9 ha hb hc r1 r2 r3 r4 r5 (an h7 h8)) ?_
 refine zAw (T:=Nat) [0,1,4,5] rfl (by simp +decide only[go_sem];exact rfl) (λk=>[(5,.int .i64 (k:Int))]) (λ_=>[]) (λk=>⟨m.boxes.set c (bR (p.length+1) (skF p f k)),m.toks⟩) (λk=>k<=p.length) (λk=>p.length-k) 0 (by simp +decide only[go_sem,r5]<;>rfl) (by simp) ?_
 rintro k hk
 by_cases h:k<p.length
 ·obtain⟨l_x,x,g_x,w_x⟩:=elm (L:=p) (k:=k) (by assumption) (by omega)
  have g1:(bR (p.length+1) (skF p f k))[k]?=some (.bool (skF p f k k)):=zEc (by omega)
  have m1:((k:Int)<((p.length+1:Nat):Int))=True:=eq_true (by omega)
  have m2:(((k+1:Nat):Int)<((p.length+1:Nat):Int))=True:=eq_true (by omega)
  have m3:(k+1+1<=p.length+1)=True:=eq_true (by omega)
  cases c37:((x.toNat:Int)==37)
  ·have e:skF p f (k+1)=skF p f k:=by
    rw[skF,if_neg]
    rintro ⟨h1,_⟩
    rw[g_x] at h1;cases h1;exact absurd c37 (by decide)
   refine gw (an9 ha hb hc r1 r2 r3 r4 r5 (an9 h7 h8 l_x g_x w_x g1 m1 m2 (an m3 c37))) ?_
   refine⟨k+1,?_,by omega,by omega⟩
   rw[e]
   exact by simp +decide only[go_sem]<;>rfl
  ·have hx:x=37:=zEb (by have:=eq_of_beq c37;show x.toNat=37;omega)
   cases cf:(skF p f k k)
   ·have e:skF p f (k+1)=skF p f k:=by
     rw[skF,if_neg]
     rintro ⟨_,h1⟩
     rw[cf] at h1;cases h1
    refine gw (an9 ha hb hc r1 r2 r3 r4 r5 (an9 h7 h8 l_x g_x w_x g1 m1 m2 (an3 m3 c37 cf))) ?_
    refine⟨k+1,?_,by omega,by omega⟩
    rw[e]
    exact by simp +decide only[go_sem]<;>rfl
   ·have e:(bR (p.length+1) (skF p f k)).set (k+1) (D.bool true)=bR (p.length+1) (skF p f (k+1)):=by
     rw[zJu]
     conv=>rhs;rw[skF,if_pos ⟨by rw[g_x,hx],cf⟩]
    refine gw (an9 ha hb hc r1 r2 r3 r4 r5 (an9 h7 h8 l_x g_x w_x g1 m1 m2 (an4 m3 c37 cf e))) ?_
    exact⟨k+1,by simp +decide only[go_sem]<;>rfl,by omega,by omega⟩
 ·have l_x:((k:Int)<((p).length:Int))=False:=by simp;omega
  obtain rfl:k=p.length:=by omega
  refine gw (an9 ha hb hc r1 r2 r3 r4 r5 (an3 h7 h8 l_x)) ?_
  simp +decide only[go_sem]
structure LkI (p t:Str) (x:List (List D)×Nat×Nat):Prop where
 k:x.2.2<=t.length
 b1:x.1[1]?=some [.str p]
 b2:x.1[2]?=some [.rsl x.2.1 0 (p.length+1) 1]
 bc:x.1[x.2.1]?=some (bR (p.length+1) (rch p t x.2.2))
 n1:x.2.1≠1
 n2:x.2.1≠2
theorem yQx (t p:Str) (ht:t.length<=1000) (hp:p.length<=1000):zA (XG G) TT 130 [.str t,.str p]=some (.bool (zZb t p)):=by
 refine zD T130 rfl (by simp only[go_sem]) ?_
 unfold Tryz.f130 xKn
 simp only[Option.getD_some]
 have w1:=yU p.length (by omega)
 have h1:((p.length:Int)+1<=16777216)=True:=eq_true (by omega)
 have h2:(0<=(p.length:Int)+1)=True:=eq_true (by omega)
 have h3:(((p.length+1:Nat):Int)<=16777216)=True:=eq_true (by omega)
 have h4:(0<=((p.length+1:Nat):Int))=True:=eq_true (by omega)
 have h5:(((p.length+1:Nat):Int)).toNat=p.length+1:=rfl
 have h6:zV (D.bool false::List.replicate p.length (D.bool false))=bR (p.length+1) λ_=>false:=zXz (p.length+1)
 have h7:=yCq (p.length+1)
 have h8:=zJv (p.length+1)
 have h9:((0:Int)<((p.length+1:Nat):Int))=True:=eq_true (by omega)
 have t0:Int.toNat 0=0:=rfl
 have h10:(0+1<=p.length+1)=True:=eq_true (by omega)
 have h11:((bR (p.length+1) λ_=>false).set 0 (D.bool true))=bR (p.length+1) λi=>i==0:=by
  rw[zJu];refine zJw λi _=>?_
  by_cases e:i=0<;>simp[e]
 have c0:=yDh (G:=G) ⟨[bR (p.length+1) λi=>i==0,[.str p],[.rsl 0 0 (p.length+1) 1]],[]⟩ 1 2 0 p (λi=>i==0) hp rfl rfl rfl (by decide) (by decide)
 have e0:bR (p.length+1) (skF p (λi=>i==0) p.length)=bR (p.length+1) (rch p t 0):=zJw λi hi=>zRj p t i (by omega)
 rw[e0] at c0
 simp +decide only[go_sem,ra]
 refine gw (an9 w1 h1 h2 h3 h4 h5 h6 h7 (an6 h8 h9 t0 h10 h11 c0)) ?_
 refine lpC (T:=List (List D)×Nat×Nat) [0,3,5,6,20,21] (λx=>[(21,.int .i64 (x.2.2:Int))]) (λ_=>[]) (λx=>⟨x.1,[]⟩) (LkI p t) (λx=>t.length-x.2.2) ([bR (p.length+1) (rch p t 0),[.str p],[.rsl 0 0 (p.length+1) 1]],0,0) (by exact⟨Nat.zero_le _,rfl,rfl,rfl,by show (0:Nat)≠1;decide,by show (0:Nat)≠2;decide⟩) ?_
 rintro ⟨B,c,k⟩ ⟨hk,u1,u2,uc,n1,n2⟩
 simp only at hk u1 u2 uc n1 n2 ⊢
 have lB:2<B.length:=(List.getElem?_eq_some_iff.1 u2).1
 have lc:c<B.length:=(List.getElem?_eq_some_iff.1 uc).1
 have x1:∀x:List D,(B++[x])[1]?=some [.str p]:=λx=>by rw[List.getElem?_append_left (by omega)];exact u1
 have x2:∀x:List D,(B++[x])[2]?=some [.rsl c 0 (p.length+1) 1]:=λx=>by rw[List.getElem?_append_left (by omega)];exact u2
 have x3:∀x:List D,(B++[x])[c]?=some (bR (p.length+1) (rch p t k)):=λx=>by rw[List.getElem?_append_left (by omega)];exact uc
 have x4:∀x:List D,(B++[x])[B.length]?=some x:=λx=>by simp
 have x5:∀x y:List D,(B++[x]).set B.length y=B++[y]:=λx y=>by simp
 by_cases h:k<t.length
 ·obtain⟨l_x,x,g_x,w_x⟩:=elm (L:=t) (k:=k) (by assumption) (by omega)
  refine gw (an9 w1 h1 h2 h3 h4 h5 h6 h7 (an9 h8 h9 t0 h10 h11 c0 u1 u2 (an9 uc x1 x2 x3 x4 x5 l_x g_x w_x))) ?_
  refine lpC (T:=Nat) [0,3,5,6,7,8,20,21,29,30] (λj=>[(30,.int .i64 (j:Int))]) (λ_=>[]) (λj=>⟨B++[bR (p.length+1) (nxF p x (rch p t k) j)],[]⟩) (λj=>j<=p.length) (λj=>p.length-j) 0 (by simp) ?_
  rintro j hj
  by_cases hjl:j<p.length
  ·obtain⟨l_y,y,g_y,w_y⟩:=elm (L:=p) (k:=j) (by assumption) (by omega)
   have r_j:(bR (p.length+1) (rch p t k))[j]?=some (.bool (rch p t k j)):=zEc (by omega)
   have m1:((j:Int)<((p.length+1:Nat):Int))=True:=eq_true (by omega)
   have m2:(((j+1:Nat):Int)<((p.length+1:Nat):Int))=True:=eq_true (by omega)
   have m3:(j+1<=p.length+1)=True:=eq_true (by omega)
   have m4:(j+1+1<=p.length+1)=True:=eq_true (by omega)
   cases cr:(rch p t k j)
   ·have e:nxF p x (rch p t k) (j+1)=nxF p x (rch p t k) j:=by
     rw[nxF,if_neg (by rw[cr];decide)]
    refine gw (an9 w1 h1 h2 h3 h4 h5 h6 h7 (an9 h8 h9 t0 h10 h11 c0 u1 u2 (an9 uc x1 x2 x3 x4 x5 l_x g_x (an9 w_x l_y g_y w_y r_j m1 m2 m3 (an m4 cr))))) ?_
    refine⟨j+1,?_,by omega,by omega⟩
    rw[e]
    exact by simp +decide only[go_sem]<;>rfl
   ·cases c37:((y.toNat:Int)==37)
    ·have n37:¬y=37:=λe=>by rw[e] at c37;exact absurd c37 (by decide)
     cases c95:((y.toNat:Int)==95)
     ·have n95:¬y=95:=λe=>by rw[e] at c95;exact absurd c95 (by decide)
      cases cx:((y.toNat:Int)==x.toNat)
      ·have nx:¬y=x:=λe=>by rw[e] at cx;simp at cx
       have e:nxF p x (rch p t k) (j+1)=nxF p x (rch p t k) j:=by
        rw[nxF,if_pos cr];simp only[g_y];rw[if_neg n37,if_neg (λh=>h.elim n95 nx)]
       refine gw (an9 w1 h1 h2 h3 h4 h5 h6 h7 (an9 h8 h9 t0 h10 h11 c0 u1 u2 (an9 uc x1 x2 x3 x4 x5 l_x g_x (an9 w_x l_y g_y w_y r_j m1 m2 m3 (an5 m4 cr c37 c95 cx))))) ?_
       refine⟨j+1,?_,by omega,by omega⟩
       rw[e]
       exact by simp +decide only[go_sem]<;>rfl
      ·have nx:y=x:=zEb (by have:=eq_of_beq cx;omega)
       have e:(bR (p.length+1) (nxF p x (rch p t k) j)).set (j+1) (D.bool true)=bR (p.length+1) (nxF p x (rch p t k) (j+1)):=by
        rw[zJu]
        conv=>rhs;rw[nxF,if_pos cr];simp only[g_y];rw[if_neg n37,if_pos (.inr nx)]
       refine gw (an9 w1 h1 h2 h3 h4 h5 h6 h7 (an9 h8 h9 t0 h10 h11 c0 u1 u2 (an9 uc x1 x2 x3 x4 x5 l_x g_x (an9 w_x l_y g_y w_y r_j m1 m2 m3 (an6 m4 cr c37 c95 cx e))))) ?_
       exact⟨j+1,by simp +decide only[go_sem]<;>rfl,by omega,by omega⟩
     ·have n95:y=95:=zEb (by have:=eq_of_beq c95;show y.toNat=95;omega)
      have e:(bR (p.length+1) (nxF p x (rch p t k) j)).set (j+1) (D.bool true)=bR (p.length+1) (nxF p x (rch p t k) (j+1)):=by
       rw[zJu]
       conv=>rhs;rw[nxF,if_pos cr];simp only[g_y];rw[if_neg n37,if_pos (.inl n95)]
      refine gw (an9 w1 h1 h2 h3 h4 h5 h6 h7 (an9 h8 h9 t0 h10 h11 c0 u1 u2 (an9 uc x1 x2 x3 x4 x5 l_x g_x (an9 w_x l_y g_y w_y r_j m1 m2 m3 (an5 m4 cr c37 c95 e))))) ?_
      exact⟨j+1,by simp +decide only[go_sem]<;>rfl,by omega,by omega⟩
    ·have n37:y=37:=zEb (by have:=eq_of_beq c37;show y.toNat=37;omega)
     have e:(bR (p.length+1) (nxF p x (rch p t k) j)).set j (D.bool true)=bR (p.length+1) (nxF p x (rch p t k) (j+1)):=by
      rw[zJu]
      conv=>rhs;rw[nxF,if_pos cr];simp only[g_y];rw[if_pos n37]
     refine gw (an9 w1 h1 h2 h3 h4 h5 h6 h7 (an9 h8 h9 t0 h10 h11 c0 u1 u2 (an9 uc x1 x2 x3 x4 x5 l_x g_x (an9 w_x l_y g_y w_y r_j m1 m2 m3 (an4 m4 cr c37 e))))) ?_
     exact⟨j+1,by simp +decide only[go_sem]<;>rfl,by omega,by omega⟩
  ·have l_y:((j:Int)<((p).length:Int))=False:=by simp;omega
   obtain rfl:j=p.length:=by omega
   have cs:=yDh (G:=G) ⟨(B++[bR (p.length+1) (nxF p x (rch p t k) p.length)]).set 2 [.rsl B.length 0 (p.length+1) 1],[]⟩ 1 2 B.length p (nxF p x (rch p t k) p.length) hp
    (by show ((_:List (List D)).set 2 _)[1]?=_;rw[List.getElem?_set_ne (by decide)];exact x1 _)
    (by show ((_:List (List D)).set 2 _)[2]?=_;rw[List.getElem?_set_self (by simp;omega)])
    (by show ((_:List (List D)).set 2 _)[B.length]?=_;rw[List.getElem?_set_ne (by omega)];exact x4 _) (by omega) (by omega)
   have es:bR (p.length+1) (skF p (nxF p x (rch p t k) p.length) p.length)=bR (p.length+1) (rch p t (k+1)):=zJw λi hi=>zXc p t k g_x i (by omega)
   rw[es] at cs
   refine gw (an9 w1 h1 h2 h3 h4 h5 h6 h7 (an9 h8 h9 t0 h10 h11 c0 u1 u2 (an9 uc x1 x2 x3 x4 x5 l_x g_x (an3 w_x l_y cs)))) ?_
   refine⟨(((B++[bR (p.length+1) (nxF p x (rch p t k) p.length)]).set 2 [.rsl B.length 0 (p.length+1) 1]).set B.length (bR (p.length+1) (rch p t (k+1))),B.length,k+1),?_,⟨by simp only;omega,?_,?_,?_,by simp only;omega,by simp only;omega⟩,by simp only;omega⟩
   ·exact by simp +decide only[go_sem]<;>rfl
   ·simp only;rw[List.getElem?_set_ne (by omega),List.getElem?_set_ne (by decide)];exact x1 _
   ·simp only;rw[List.getElem?_set_ne (by omega),List.getElem?_set_self (by simp;omega)]
   ·simp only;rw[List.getElem?_set_self (by simp)]
 ·have l_x:((k:Int)<((t).length:Int))=False:=by simp;omega
  obtain rfl:k=t.length:=by omega
  have g1:(bR (p.length+1) (rch p t t.length))[p.length]?=some (.bool (rch p t t.length p.length)):=zEc (by omega)
  have g2:((p.length:Int)<((p.length+1:Nat):Int))=True:=eq_true (by omega)
  repeat (first|(with_reducible first|refine q1 ?_|refine q2 ?_|refine q3 ?_|refine q4 ?_|refine q5 ?_|refine q6 ?_|refine q7 ?_|refine q8 ?_|refine q9 ?_|refine q10 ?_|refine q11 ?_|refine q12 (by decide) ?_)|((first|with_reducible refine q13 ?_|((with_reducible refine q14 ?_ ?_);focus exact rfl));intro K hK;simp +decide only[go_sem,h7,u1,u2,uc,l_x,g1,g2,zMx];with_reducible refine hK _ ?_;clear hK K)|(with_reducible refine q15 ?_;intro K J hK hJ;simp +decide only[go_sem];(with_reducible first|refine hK ?_|refine hJ ?_);clear hK hJ K J))
  simp +decide only[go_sem]
  rw[yJp]
end Go.Eng
