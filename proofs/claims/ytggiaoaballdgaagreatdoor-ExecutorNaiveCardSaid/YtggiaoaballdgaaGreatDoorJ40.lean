/- A part of the proof: see the last text. -/
import Derived.Test.YtggiaoaballdgaaGreatDoorR5Ty4
import Derived.Test.YtggiaoaballdgaaGreatDoorJ11
import Derived.Test.YtggiaoaballdgaaGreatDoorJ31
import Derived.Test.YtggiaoaballdgaaGreatDoorJ30
set_option linter.unusedSimpArgs false
set_option linter.unusedVariables false
namespace Go.Eng
open Go Go.Proofs
open Nat renaming reduceAdd → ra, reduceMul → rb, reduceSub → rc
set_option maxRecDepth 20000
set_option maxHeartbeats 32000000
attribute [local irreducible] wpI xU
variable {G:Nat->Option (List D)}
theorem yYl (l:List Int) (V:Sl Col) (e:ExR) (h:e.a.1=1):∃t,zA (XG G) TT 164 [e.enc,sl 5 vr V]=some (.int .i64 t)/\TyP l (tmD e.enc) t:=by
 suffices h:∃d,zA (XG G) TT 164 [e.enc,sl 5 vr V]=some d/\∃t,d=.int .i64 t/\TyP l (tmD e.enc) t by
  obtain⟨d,h1,t,rfl,h2⟩:=h;exact⟨t,h1,h2⟩
 have e1:(e.a.1==1)=true:=by simp[h]
 obtain⟨t,ht,hT⟩:=yNe (G:=G) ⟨e.c.1,e.d.1,e.u⟩
 simp only[zBg] at ht
 have htm:=xG e
 refine zS T164 rfl (by simp only[go_sem,vG]) ?_
 unfold Tryz.f164 yHi
 simp only[Option.getD_some]
 simp +decide only[go_sem,ra,rb,rc,e1,ht]
 by_cases hl:0<e.args.items.length
 ·have c1:((0:Int)<(e.args.items.length:Int))=True:=eq_true (by omega)
  refine gw (an3 e1 ht c1) ?_
  simp +decide only[go_sem,ra,rb,rc,e1,ht]
  exact⟨_,rfl,.inl rfl⟩
 ·have c1:((0:Int)<(e.args.items.length:Int))=False:=eq_false (by omega)
  have h0:e.args.items=[]:=List.eq_nil_of_length_eq_zero (by omega)
  refine gw (an3 e1 ht c1) ?_
  simp +decide only[go_sem,ra,rb,rc,e1,ht]
  refine⟨_,rfl,?_⟩
  show TyP l (tmD e.enc) t
  rw[htm,h0,h]
  exact yZv hT
theorem yYk (V:Sl Col) (e:ExR) (h:e.a.1=2):∃t,zA (XG G) TT 164 [e.enc,sl 5 vr V]=some (.int .i64 t)/\TyP (tyL V.items) (tmD e.enc) t:=by
 suffices h:∃d,zA (XG G) TT 164 [e.enc,sl 5 vr V]=some d/\∃t,d=.int .i64 t/\TyP (tyL V.items) (tmD e.enc) t by
  obtain⟨d,h1,t,rfl,h2⟩:=h;exact⟨t,h1,h2⟩
 have e1:(e.a.1==1)=false:=by simp[h]
 have e2:(e.a.1==2)=true:=by simp[h]
 have htm:=xG e
 have hlt:=V.lt
 refine zS T164 rfl (by simp only[go_sem,vG]) ?_
 unfold Tryz.f164 yHi
 simp only[Option.getD_some]
 simp +decide only[go_sem,ra,rb,rc,e1,e2]
 by_cases hl:0<e.args.items.length
 ·have c1:((0:Int)<(e.args.items.length:Int))=True:=eq_true (by omega)
  refine gw (an3 e1 e2 c1) ?_
  simp +decide only[go_sem,ra,rb,rc,e1,e2]
  exact⟨_,rfl,.inl rfl⟩
 ·have c1:((0:Int)<(e.args.items.length:Int))=False:=eq_false (by omega)
  have h0:e.args.items=[]:=List.eq_nil_of_length_eq_zero (by omega)
  by_cases hb:e.b.1<0
  ·have c2:(e.b.1<0)=True:=eq_true hb
   refine gw (an4 e1 e2 c1 c2) ?_
   simp +decide only[go_sem,ra,rb,rc,e1,e2]
   exact⟨_,rfl,.inl rfl⟩
  ·have c2:(e.b.1<0)=False:=eq_false hb
   by_cases hb2:(V.items.length:Int)<=e.b.1
   ·have c3:((V.items.length:Int)<=e.b.1)=True:=eq_true hb2
    refine gw (an5 e1 e2 c1 c2 c3) ?_
    simp +decide only[go_sem,ra,rb,rc,e1,e2]
    exact⟨_,rfl,.inl rfl⟩
   ·have c3:((V.items.length:Int)<=e.b.1)=False:=eq_false hb2
    obtain⟨n,hn⟩:∃n:Nat,e.b.1=n:=⟨e.b.1.toNat,by omega⟩
    obtain⟨c,g_c⟩:∃c,V.items[n]?=some c:=⟨_,List.getElem?_eq_getElem (by omega)⟩
    have hat:atI V.items e.b.1=some c:=by rw[hn];exact g_c
    have hv:=yXn c
    cases d1:(decide (c.a.1<1))
    ·cases d2:(decide ((2:Int)<c.a.1))
     ·refine gw (an9 e1 e2 d1 d2 c1 c2 c3 hat hv) ?_
      simp +decide only[go_sem,ra,rb,rc,e1,e2,d1,d2]
      refine⟨_,rfl,.inr ?_⟩
      show WT (tyL V.items) (tmD e.enc) c.a.1
      rw[htm,h0,h,hn]
      simp only[decide_eq_false_iff_not] at d1 d2
      exact .col n _ _ (yMv g_c) (by omega)
     ·refine gw (an9 e1 e2 d1 d2 c1 c2 c3 hat hv) ?_
      simp +decide only[go_sem,ra,rb,rc,e1,e2,d1,d2]
      exact⟨_,rfl,.inl rfl⟩
    ·refine gw (an8 e1 e2 d1 c1 c2 c3 hat hv) ?_
     simp +decide only[go_sem,ra,rb,rc,e1,e2,d1]
     exact⟨_,rfl,.inl rfl⟩
theorem yYj (l:List Int) (V:Sl Col) (e:ExR) (t:Int) (hu:zA (XG G) TT 243 [e.enc,sl 5 vr V]=some (.int .i64 t)) (h:e.a.1=3\/e.a.1=9\/e.a.1=17\/e.a.1=20):zA (XG G) TT 164 [e.enc,sl 5 vr V]=some (.int .i64 t):=by
 have e1:(e.a.1==1)=false:=by simp;omega
 have e2:(e.a.1==2)=false:=by simp;omega
 simp only[vT] at hu
 refine zD T164 rfl (by simp only[go_sem,vG]) ?_
 unfold Tryz.f164 yHi
 simp only[Option.getD_some]
 simp +decide only[go_sem,ra,rb,rc,e1,e2,hu]
 rcases h with h|h|h|h
 ·have e3:(e.a.1==3)=true:=by simp[h]
  refine gw (an4 e1 e2 hu e3) ?_
  simp +decide only[go_sem,ra,rb,rc,e1,e2,hu]
 ·have e3:(e.a.1==3)=false:=by simp[h]
  have e4:(e.a.1==9)=true:=by simp[h]
  refine gw (an5 e1 e2 hu e3 e4) ?_
  simp +decide only[go_sem,ra,rb,rc,e1,e2,hu]
 ·have e3:(e.a.1==3)=false:=by simp[h]
  have e4:(e.a.1==9)=false:=by simp[h]
  have e5:(e.a.1==17)=true:=by simp[h]
  refine gw (an6 e1 e2 hu e3 e4 e5) ?_
  simp +decide only[go_sem,ra,rb,rc,e1,e2,hu]
 ·have e3:(e.a.1==3)=false:=by simp[h]
  have e4:(e.a.1==9)=false:=by simp[h]
  have e5:(e.a.1==17)=false:=by simp[h]
  have e6:(e.a.1==20)=true:=by simp[h]
  refine gw (an7 e1 e2 hu e3 e4 e5 e6) ?_
  simp +decide only[go_sem,ra,rb,rc,e1,e2,hu]
theorem yCw (V:Sl Col) (e:ExR) (h1:e.a.1≠1) (h2:e.a.1≠2) (h3:e.a.1≠3) (h4:e.a.1≠9) (h5:e.a.1≠17) (h6:e.a.1≠20) (hl:e.args.items.length≠2\/(∃x y,e.args.items=[x,y])/\¬(4<=e.a.1/\e.a.1<=8)/\¬(10<=e.a.1/\e.a.1<=16)/\e.a.1≠18/\e.a.1≠19):zA (XG G) TT 164 [e.enc,sl 5 vr V]=some (.int .i64 (-1)):=by
 have e1:(e.a.1==1)=false:=by simp;omega
 have e2:(e.a.1==2)=false:=by simp;omega
 have e3:(e.a.1==3)=false:=by simp;omega
 have e4:(e.a.1==9)=false:=by simp;omega
 have e5:(e.a.1==17)=false:=by simp;omega
 have e6:(e.a.1==20)=false:=by simp;omega
 refine zD T164 rfl (by simp only[go_sem,vG]) ?_
 unfold Tryz.f164 yHi
 simp only[Option.getD_some]
 simp +decide only[go_sem,ra,rb,rc,e1,e2,e3,e4,e5,e6]
 rcases hl with hl|⟨⟨x,y,h0⟩,k1,k2,k3,k4⟩
 ·have c1:((e.args.items.length:Int) != 2)=true:=by simp;omega
  refine gw (an7 e1 e2 e3 e4 e5 e6 c1) ?_
  simp +decide only[go_sem,ra,rb,rc,e1,e2,e3,e4,e5,e6]
 ·have c1:((e.args.items.length:Int) != 2)=false:=by rw[h0];rfl
  have at0:atI e.args.items 0=some x:=by rw[h0];rfl
  have at1:atI e.args.items 1=some y:=by rw[h0];rfl
  obtain⟨ex,hex,_⟩:=x.open
  obtain⟨ey,hey,_⟩:=y.open
  simp only[vT] at hex hey
  have f4:(e.a.1==4)=false:=by simp;omega
  have f5:(e.a.1==5)=false:=by simp;omega
  have f6:(e.a.1==6)=false:=by simp;omega
  have f7:(e.a.1==7)=false:=by simp;omega
  have f8:(e.a.1==8)=false:=by simp;omega
  have g0:(e.a.1==10)=false:=by simp;omega
  have g1:(e.a.1==11)=false:=by simp;omega
  have g2:(e.a.1==12)=false:=by simp;omega
  have g3:(e.a.1==13)=false:=by simp;omega
  have g4:(e.a.1==14)=false:=by simp;omega
  have g5:(e.a.1==15)=false:=by simp;omega
  have g6:(e.a.1==16)=false:=by simp;omega
  have g8:(e.a.1==18)=false:=by simp;omega
  have g9:(e.a.1==19)=false:=by simp;omega
  refine gw (an9 e1 e2 e3 e4 e5 e6 c1 at0 (an9 at1 hex hey f4 f5 f6 f7 f8 (an9 g0 g1 g2 g3 g4 g5 g6 g8 g9))) ?_
  simp +decide only[go_sem,ra,rb,rc,e1,e2,e3,e4,e5,e6]
theorem xLm {α:Type}:∀{l:List α},l.length=2->∃x y,l=[x,y]
 |[x,y],_=>⟨x,y,rfl⟩
theorem zQr (V:Sl Col):∀(N:Nat) (x:Ex),SizeOf.sizeOf (zM x)<N->∃t,zA (XG G) TT 164 [zM x,sl 5 vr V]=some (.int .i64 t)/\TyP (tyL V.items) (tmE x) t
 |0,x,h=>absurd h (Nat.not_lt_zero _)
 | N + 1,x,h=>by
  obtain⟨e,he,hs⟩:=x.open
  have ih:∀y∈e.args.items,∃t,zA (XG G) TT 164 [zM y,sl 5 vr V]=some (.int .i64 t)/\TyP (tyL V.items) (tmE y) t:=λy hy=>zQr V N y (by have:=hs y hy;omega)
  unfold tmE
  rw[he]
  clear hs h he x
  by_cases h1:e.a.1=1
  ·exact yYl _ V e h1
  ·by_cases h2:e.a.1=2
   ·exact yYk V e h2
   ·by_cases hu:e.a.1=3\/e.a.1=9\/e.a.1=17\/e.a.1=20
    ·obtain⟨t,ht,hT⟩:=yIq (tyL V.items) V e ih
     exact⟨t,yYj [] V e t ht hu,hT⟩
    ·by_cases hl:e.args.items.length=2
     ·obtain⟨x,y,h0⟩:=xLm hl
      obtain⟨ta,hx,hX⟩:=ih x (by simp[h0])
      obtain⟨tb,hy,hY⟩:=ih y (by simp[h0])
      by_cases k1:4<=e.a.1/\e.a.1<=8
      ·exact yPo _ V e x y h0 ta tb hx hy hX hY k1
      ·by_cases k2:10<=e.a.1/\e.a.1<=15
       ·exact yPl _ V e x y h0 ta tb hx hy hX hY k2
       ·by_cases k3:e.a.1=16
        ·exact yPm _ V e x y h0 ta tb hx hy hX hY k3
        ·by_cases k4:e.a.1=18\/e.a.1=19
         ·exact yPn _ V e x y h0 ta tb hx hy hX hY k4
         ·exact⟨-1,yCw V e h1 h2 (by omega) (by omega) (by omega) (by omega) (.inr ⟨⟨x,y,h0⟩,k1,by omega,by omega,by omega⟩),.inl rfl⟩
     ·exact⟨-1,yCw V e h1 h2 (by omega) (by omega) (by omega) (by omega) (.inl hl),.inl rfl⟩
theorem yCx (V:Sl Col) (x:Ex):∃t,zA (XG G) TT 164 [zM x,sl 5 vr V]=some (.int .i64 t)/\TyP (tyL V.items) (tmE x) t:=zQr V _ x (Nat.lt_succ_self _)
theorem zYm (V:Sl Col):∀(N:Nat) (x:Ex),SizeOf.sizeOf (zM x)<N->∃b,zA (XG G) TT 108 [zM x,sl 5 vr V]=some (.bool b)
 |0,x,h=>absurd h (Nat.not_lt_zero _)
 | N +1,x,h=>by
  obtain⟨e,he,hs⟩:=x.open
  have ih:∀y∈e.args.items,∃b,zA (XG G) TT 108 [zM y,sl 5 vr V]=some (.bool b):=λy hy=>zYm V N y (by have:=hs y hy;omega)
  obtain⟨t,ht,hT⟩:=yCx (G:=G) V x
  have hbd:t=1->∃n:Int,zA (XG G) TT 165 [zM x,sl 5 vr V]=some (.int .i64 n):=λh1=>zYl (tyL V.items) V x t (.inr h1) (hT.resolve_left (by omega))
  suffices h:∃d,zA (XG G) TT 108 [zM x,sl 5 vr V]=some d/\∃b,d=.bool b by
   obtain⟨d,h1,b,rfl⟩:=h;exact⟨b,h1⟩
  rw[he] at ht hbd ⊢
  simp only[vT] at ht hbd
  refine zS T108 rfl (by simp only[go_sem,vG]) ?_
  unfold Tryz.f108 xLd
  simp only[Option.getD_some]
  have hlt:=e.args.lt
  simp +decide only[go_sem,ra,rb,rc,ht]
  obtain⟨n,c0,hn⟩:∃n:Int,((t==1)=false\/((t==1)=true/\decide ((1152921504606846976:Int)<n)=true)\/((t==1)=true/\decide ((1152921504606846976:Int)<n)=false))/\((t==1)=true->zA (XG G) TT 165 [.agg [.int .i64 e.a.1,.str e.s,.str e.t,.int .i64 e.b.1,.int .i64 e.c.1,.int .i64 e.d.1,.str e.u,sl 8 zM e.args],sl 5 vr V]=some (.int .i64 n)):=by
   by_cases h1:t=1
   ·obtain⟨n,hn⟩:=hbd h1
    refine⟨n,?_,λ_=>hn⟩
    by_cases h2:(1152921504606846976:Int)<n
    ·exact .inr (.inl ⟨by simp[h1],by simp[h2]⟩)
    ·exact .inr (.inr ⟨by simp[h1],by simp[h2]⟩)
   ·exact⟨0,.inl (by simp[h1]),λh=>absurd (by simpa using h) h1⟩
  rcases c0 with c|⟨c,c2⟩|⟨c,c2⟩
  ·refine gw (an ht c) ?_
   refine zAw (T:=Nat) [1,2,5] rfl (by simp +decide only[go_sem,ra,rb,rc,ht];exact rfl) (λk=>[(5,.int .i64 (k:Int))]) (λ_=>[]) (λ_=>⟨[],[]⟩) (λk=>k<=e.args.items.length) (λk=>e.args.items.length-k) 0 (by simp +decide only[go_sem,ra,rb,rc,ht]<;>rfl) (by simp) ?_
   rintro k hk
   by_cases h:k<e.args.items.length
   ·obtain⟨l_a,a,g_a,w_a⟩:=elm (L:=e.args.items) (k:=k) (by assumption) (by omega)
    obtain⟨b,hb⟩:=ih a (List.mem_of_getElem? g_a)
    cases b
    ·refine gw (an5 ht l_a g_a w_a hb) ?_
     simp +decide only[go_sem,ra,rb,rc,ht,l_a,g_a,w_a]
     exact⟨_,rfl⟩
    ·refine gw (an5 ht l_a g_a w_a hb) ?_
     exact⟨k+1,by simp +decide only[go_sem,ra,rb,rc,ht,l_a,g_a,w_a]<;>rfl,h,by omega⟩
   ·have l_a:((k:Int)<((e.args.items).length:Int))=False:=by simp;omega
    refine gw (an ht l_a) ?_
    simp +decide only[go_sem,ra,rb,rc,ht,l_a]
    exact⟨_,rfl⟩
  ·have hn:=hn c
   refine gw (an4 ht c c2 hn) ?_
   simp +decide only[go_sem,ra,rb,rc,ht]
   exact⟨_,rfl⟩
  ·have hn:=hn c
   refine gw (an4 ht c c2 hn) ?_
   refine zAw (T:=Nat) [1,2,5] rfl (by simp +decide only[go_sem,ra,rb,rc,ht];exact rfl) (λk=>[(5,.int .i64 (k:Int))]) (λ_=>[]) (λ_=>⟨[],[]⟩) (λk=>k<=e.args.items.length) (λk=>e.args.items.length-k) 0 (by simp +decide only[go_sem,ra,rb,rc,ht]<;>rfl) (by simp) ?_
   rintro k hk
   by_cases h:k<e.args.items.length
   ·obtain⟨l_a,a,g_a,w_a⟩:=elm (L:=e.args.items) (k:=k) (by assumption) (by omega)
    obtain⟨b,hb⟩:=ih a (List.mem_of_getElem? g_a)
    cases b
    ·refine gw (an5 ht l_a g_a w_a hb) ?_
     simp +decide only[go_sem,ra,rb,rc,ht,l_a,g_a,w_a]
     exact⟨_,rfl⟩
    ·refine gw (an5 ht l_a g_a w_a hb) ?_
     exact⟨k+1,by simp +decide only[go_sem,ra,rb,rc,ht,l_a,g_a,w_a]<;>rfl,h,by omega⟩
   ·have l_a:((k:Int)<((e.args.items).length:Int))=False:=by simp;omega
    refine gw (an ht l_a) ?_
    simp +decide only[go_sem,ra,rb,rc,ht,l_a]
    exact⟨_,rfl⟩
theorem xBc (V:Sl Col) (x:Ex):∃b,zA (XG G) TT 108 [zM x,sl 5 vr V]=some (.bool b):=zYm V _ x (Nat.lt_succ_self _)
theorem xAn (V:Sl Col) (x:Ex):∃b,zA (XG G) TT 61 [zM x,sl 5 vr V,.int .i64 3]=some (.bool b)/\(b=true->∃τ,(τ=0\/τ=3)/\WT (tyL V.items) (tmE x) τ):=by
 suffices h:∃d,zA (XG G) TT 61 [zM x,sl 5 vr V,.int .i64 3]=some d/\∃b,d=.bool b/\(b=true->∃τ,(τ=0\/τ=3)/\WT (tyL V.items) (tmE x) τ) by
  obtain⟨d,h1,b,rfl,h2⟩:=h;exact⟨b,h1,h2⟩
 obtain⟨n,hn⟩:=yKx (G:=G) x
 obtain⟨t,ht,hT⟩:=yCx (G:=G) V x
 have hi:=uI V x t 3 ht
 obtain⟨bb,hb⟩:=xBc (G:=G) V x
 obtain⟨e,he,_⟩:=x.open
 rw[he] at hn hi hb ⊢
 simp only[vT] at hn hi hb
 refine zS T61 rfl (by simp only[go_sem,vG]) ?_
 unfold Tryz.f61 F61
 simp only[Option.getD_some]
 simp +decide only[go_sem,ra,rb,rc,hn,hi,hb]
 cases c1:(decide (n<=40))
 ·refine gw (an4 hn hi hb c1) ?_
  simp +decide only[go_sem,ra,rb,rc,hn,hi,hb,c1]
  exact⟨_,rfl,λh=>by cases h⟩
 ·cases c2:(decide ((V.items.length:Int)<=12))
  ·refine gw (an5 hn hi hb c1 c2) ?_
   simp +decide only[go_sem,ra,rb,rc,hn,hi,hb,c1,c2]
   exact⟨_,rfl,λh=>by cases h⟩
  ·cases c3:((t==0||t==3))
   ·refine gw (an6 hn hi hb c1 c2 c3) ?_
    simp +decide only[go_sem,ra,rb,rc,hn,hi,hb,c1,c2,c3]
    exact⟨_,rfl,λh=>by cases h⟩
   ·obtain⟨a1,a2⟩:=zIk hT (by decide) c3
    refine gw (an6 hn hi hb c1 c2 c3) ?_
    simp +decide only[go_sem,ra,rb,rc,hn,hi,hb,c1,c2,c3]
    exact⟨_,rfl,λ_=>⟨t,a1,a2⟩⟩
theorem yMt (t:Tbl) (ht:t.cols.items.length<=20):zA (XG G) TT 59 [zQ t]=some (wW 5 (t.cols.items.map vr)):=by
 refine zD T59 rfl (by simp only[go_sem]) ?_
 unfold Tryz.f59 F59
 simp only[Option.getD_some]
 simp +decide only[go_sem]
 refine gw trivial ?_
 refine wM (T:=Nat) [1,3,4] (λk=>⟨slL [(1,.undef),(3,zMm 5 ((t.cols.items.take k).map vr)),(4,.int .i64 (k:Int))],opL [(1,(1,0))],opL [(1,[.str t.name,sl 6 yO t.cols,sl 1 (sl 1 I) t.keys,sl 3 yH t.fgns,sl 8 zM t.checks])],⟨[],zVv ((t.cols.items.take k).map vr)⟩⟩) (λk=>k<=t.cols.items.length) (λk=>t.cols.items.length-k) 0 rfl (by simp +decide only[go_sem]<;>rfl) (by simp) ?_
 rintro k hk
 by_cases h:k<t.cols.items.length
 ·obtain⟨l_x,x,g_x,w_x⟩:=elm (L:=t.cols.items) (k:=k) (by assumption) (by omega)
  have hl:(((t.cols.items.take k).map vr).length+1<=16777216)=True:=by
   have:((t.cols.items.take k).map vr).length<=20:=by rw[List.length_map];exact Nat.le_trans (List.length_take_le' ..) ht
   simp only[eq_iff_iff,iff_true];omega
  refine gw (an7 l_x g_x w_x l_x g_x w_x hl) ?_
  refine⟨k+1,?_,by omega,by omega⟩
  rw[List.take_add_one,g_x,List.map_append]
  exact by simp +decide only[go_sem]<;>rfl
 ·have l_x:((k:Int)<((t.cols.items).length:Int))=False:=by simp;omega
  rw[List.take_of_length_le (by omega)]
  refine gw (an l_x l_x) ?_
  simp +decide only[go_sem]
  exact uZ (zQt _)
structure zUo (s:List Tbl) (b:Bnd) (data:List Rows):Prop where
 len:data.length=s.length
 wh:xEd (tyL b.vars.items) (tmD b.w.enc)
 few:∀rs∈data,rs.items.length<=5
 row:∀(i:Nat) (t:Tbl) (rs:Rows),s[i]?=some t->data[i]?=some rs->∀r∈rs.items,zIj (tyL t.cols.items) r.items
theorem yQg (s:Sl Tbl) (b:Bnd) (data:Sl Rows) (h20:∀t∈s.items,t.cols.items.length<=20):∃v,zA (XG G) TT 27 [sl 5 zQ s,yL b,qI data]=some (.bool v)/\(v=true->zUo s.items b data.items):=by
 suffices h:∃d,zA (XG G) TT 27 [sl 5 zQ s,yL b,qI data]=some d/\∃v,d=.bool v/\(v=true->zUo s.items b data.items) by
  obtain⟨d,h1,v,rfl,h2⟩:=h;exact⟨v,h1,h2⟩
 obtain⟨e,he,het⟩:=zKn b.w
 obtain⟨fb,hf,hF⟩:=xAn (G:=G) b.vars e
 rw[he] at hf
 have hop:(tmD b.w.enc).op=b.w.a.1:=by rw[xG];rfl
 refine zS T27 rfl (by simp only[go_sem]) ?_
 unfold Tryz.f27 F27
 simp only[Option.getD_some,yL,qI]
 have hlt:=s.lt
 have hltd:=data.lt
 have hsD:zF noR (sl 1 zDy data)=sl 1 zDy data:=qX data
 have nb1:(!false)=true:=rfl
 have nb2:(!true)=false:=rfl
 simp +decide only[go_sem,ra]
 cases cl:((data.items.length:Int) != (s.items.length:Int))
 ·have hlen:data.items.length=s.items.length:=by simp at cl;omega
  obtain⟨c0,hwh⟩:((b.w.a.1 != 0)=false\/((b.w.a.1 != 0)=true/\fb=false)\/((b.w.a.1 != 0)=true/\fb=true))/\(((b.w.a.1 != 0)=false\/fb=true)->xEd (tyL b.vars.items) (tmD b.w.enc)):=by
   constructor
   ·cases (b.w.a.1 != 0)<;>cases fb<;>simp
   ·rintro (h|h)
    ·exact .inl (by rw[hop];simpa using h)
    ·rw[<-het];exact .inr (hF h)
  have main:∀(P:Prop),P->True:=λ_ _=>trivial
  rcases c0 with c|⟨c,c2⟩|⟨c,c2⟩
  case' inl=>
   have c2:=trivial
   have hwh:=hwh (.inl c)
   refine gw (an6 hf hsD nb1 nb2 cl c) ?_
  case' inr.inr=>
   have hwh:=hwh (.inr c2)
   refine gw (an7 hf hsD nb1 nb2 cl c c2) ?_
  case inr.inl=>
   refine gw (an7 hf hsD nb1 nb2 cl c c2) ?_
   simp +decide only[go_sem]
   exact⟨_,rfl,λh=>by cases h⟩
  all_goals
   refine lpC (T:=Nat) [0,2,7] (λk=>[(7,.int .i64 (k:Int))]) (λ_=>[]) (λ_=>⟨[],[]⟩) (λk=>k<=data.items.length/\∀(i:Nat) (t:Tbl) (rs:Rows),i<k->s.items[i]?=some t->data.items[i]?=some rs->rs.items.length<=5/\∀r∈rs.items,zIj (tyL t.cols.items) r.items) (λk=>data.items.length-k) 0 (by exact⟨Nat.zero_le _,λi t rs h=>by omega⟩) ?_
   rintro k ⟨hk,hP⟩
   by_cases h:k<data.items.length
   ·obtain⟨l_rs,rs,g_rs,w_rs⟩:=elm (L:=data.items) (k:=k) (by assumption) (by omega)
    obtain⟨t,g_t⟩:∃t,s.items[k]?=some t:=⟨_,List.getElem?_eq_getElem (by omega)⟩
    have ht20:=h20 t (List.mem_of_getElem? g_t)
    have hv:=yMt (G:=G) t ht20
    have hvc:wW 5 (t.cols.items.map vr)=sl 5 vr (cn t.cols.items):=qF 5 vr (by omega)
    rw[hvc] at hv
    have hltr:=rs.lt
    cases c5:(decide ((5:Int)<(rs.items.length:Int)))
    ·simp only[decide_eq_false_iff_not] at c5
     have c5':((5:Int)<(rs.items.length:Int))=False:=eq_false c5
     refine gw (an9 hf hsD nb1 nb2 cl l_rs g_rs w_rs (an3 g_t c5 c5')) ?_
     refine lpC (T:=Nat) [0,2,7,8] (λj=>[(8,.int .i64 (j:Int))]) (λ_=>[]) (λ_=>⟨[],[]⟩) (λj=>j<=rs.items.length/\∀r∈rs.items.take j,zIj (tyL t.cols.items) r.items) (λj=>rs.items.length-j) 0 (by exact⟨Nat.zero_le _,λr h=>by simp at h⟩) ?_
     rintro j ⟨hj,hR⟩
     by_cases h':j<rs.items.length
     ·obtain⟨l_r,r,g_r,w_r⟩:=elm (L:=rs.items) (k:=j) (by assumption) (by omega)
      obtain⟨vb,hrw,hrT⟩:=xLq (G:=G) (cn t.cols.items) r
      rw[yR (by omega)] at hrT
      simp only[xQ] at hv
      cases vb with
      |false=>
       refine gw (an9 hf hsD nb1 nb2 cl l_rs g_rs w_rs (an7 g_t c5 l_r g_r w_r hv hrw)) ?_
       simp +decide only[go_sem]
       exact⟨_,rfl,λh=>by cases h⟩
      |true=>
       refine gw (an9 hf hsD nb1 nb2 cl l_rs g_rs w_rs (an7 g_t c5 l_r g_r w_r hv hrw)) ?_
       refine⟨j+1,by simp +decide only[go_sem]<;>rfl,⟨h',λy hy=>?_⟩,by omega⟩
       rw[List.take_add_one,g_r,List.mem_append] at hy
       rcases hy with hy|hy
       ·exact hR y hy
       ·simp at hy;subst hy;exact hrT rfl
     ·have l_r:((j:Int)<((rs.items).length:Int))=False:=by simp;omega
      rw[List.take_of_length_le (by omega)] at hR
      refine gw (an9 hf hsD nb1 nb2 cl l_rs g_rs w_rs (an3 g_t c5 l_r)) ?_
      refine⟨k+1,by simp +decide only[go_sem]<;>rfl,⟨h,λi t' rs' hi h1 h2=>?_⟩,by omega⟩
      by_cases e2:i<k
      ·exact hP i t' rs' e2 h1 h2
      ·obtain rfl:i=k:=by omega
       rw[g_t] at h1;rw[g_rs] at h2
       cases h1;cases h2
       exact⟨by omega,hR⟩
    ·refine gw (an9 hf hsD nb1 nb2 cl l_rs g_rs w_rs (an g_t c5)) ?_
     simp +decide only[go_sem]
     exact⟨_,rfl,λh=>by cases h⟩
   ·have l_rs:((k:Int)<((data.items).length:Int))=False:=by simp;omega
    refine gw (an6 hf hsD nb1 nb2 cl l_rs) ?_
    simp +decide only[go_sem]
    refine⟨_,rfl,λ_=>⟨hlen,hwh,λrs hrs=>?_,λi t rs h1 h2=>(hP i t rs (by have:=(List.getElem?_eq_some_iff.1 h2).1;omega) h1 h2).2⟩⟩
    obtain⟨i,hi,e2⟩:=List.mem_iff_getElem.1 hrs
    have h2:data.items[i]?=some rs:=by rw[<-e2];exact List.getElem?_eq_getElem hi
    obtain⟨t,g_t⟩:∃t,s.items[i]?=some t:=⟨_,List.getElem?_eq_getElem (by omega)⟩
    exact(hP i t rs (by omega) g_t h2).1
 ·refine gw (an5 hf hsD nb1 nb2 cl) ?_
  simp +decide only[go_sem]
  exact⟨_,rfl,λh=>by cases h⟩
theorem yYz (s:Sl (List Val)) (hs:∀r∈s.items,r.length<=100000):zA (XG G) TT 12 [sl 1 rv s,sl 1 rv s]=some (.bool true):=by
 have hrv:∀x:List Val,rv x=.slice none 3 (x.map vD):=λ_=>rfl
 have hst:∀(g:Nat->Nat->Nat->Nat->D) (x:List Val),zC g (x.map vD)=x.map vD:=λg x=>zL vD (λv=>yW v) x
 refine zD T12 rfl (by simp only[go_sem]) ?_
 unfold Tryz.f12 F12
 simp only[Option.getD_some]
 have hlt:=s.lt
 have n1:((s.items.length:Int) != (s.items.length:Int))=false:=by simp
 simp +decide only[go_sem,ra]
 refine gw (an3 hrv hst n1) ?_
 refine lpC (T:=Nat) [0,1,13,14] (λk=>[(14,.int .i64 (k:Int))]) (λ_=>[]) (λ_=>⟨[],[]⟩) (λk=>k<=s.items.length) (λk=>s.items.length-k) 0 (by exact Nat.zero_le _) ?_
 rintro k hk
 by_cases h:k<s.items.length
 ·obtain⟨l_r,r,g_r,w_r⟩:=elm (L:=s.items) (k:=k) (by assumption) (by omega)
  have hrl:=hs r (List.mem_of_getElem? g_r)
  have hml:(r.map vD).length=r.length:=List.length_map ..
  have n2:((r.length:Int) != (r.length:Int))=false:=by simp
  refine gw (an8 hrv hst n1 l_r g_r w_r hml n2) ?_
  refine lpC (T:=Nat) [0,1,5,13,14,32,33] (λj=>[(33,.int .i64 (j:Int))]) (λ_=>[]) (λ_=>⟨[],[]⟩) (λj=>j<=r.length) (λj=>r.length-j) 0 (by exact Nat.zero_le _) ?_
  rintro j hj
  by_cases h':j<r.length
  ·obtain⟨l_v,v,g_v,w_v⟩:=elm (L:=r) (k:=j) (by assumption) (by omega)
   have hv:(r.map vD)[j]?=some (.agg [.int .i64 v.k,.int .i64 v.n,.str v.s]):=by rw[List.getElem?_map,g_v];rfl
   refine gw (an9 hrv hst n1 l_r g_r w_r l_v g_v (an3 w_v hml hv)) ?_
   exact⟨j+1,by simp +decide only[go_sem]<;>rfl,h',by omega⟩
  ·have l_v:((j:Int)<((r).length:Int))=False:=by simp;omega
   refine gw (an7 hrv hst n1 l_r g_r w_r l_v) ?_
   exact⟨k+1,by simp +decide only[go_sem]<;>rfl,h,by omega⟩
 ·have l_r:((k:Int)<((s.items).length:Int))=False:=by simp;omega
  refine gw (an4 hrv hst n1 l_r) ?_
  simp +decide only[go_sem]
end Go.Eng
