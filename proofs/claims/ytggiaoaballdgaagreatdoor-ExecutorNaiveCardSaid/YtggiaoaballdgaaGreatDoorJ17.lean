/- A part of the proof: see the last text. -/
import Derived.Test.YtggiaoaballdgaaGreatDoorJ16
import Derived.Test.YtggiaoaballdgaaGreatDoorJ8
import Derived.Test.YtggiaoaballdgaaGreatDoorJ13
import Derived.Test.YtggiaoaballdgaaGreatDoorJ9
import Derived.Test.YtggiaoaballdgaaGreatDoorJ12
import Derived.Test.YtggiaoaballdgaaGreatDoorJ15
set_option linter.unusedSimpArgs false
set_option linter.unusedVariables false
namespace Go.Eng
open Go Go.Proofs
open Nat renaming reduceAdd → ra, reduceMul → rb, reduceSub → rc
set_option maxRecDepth 20000
set_option maxHeartbeats 32000000
attribute [local irreducible] wpI xU
variable {G:Nat->Option (List D)}
@[go_sem] theorem yGr {X:Ctx} {F:Fi} {C:wC} (m0:Mem) (dst:Option Nat) (t:Nat) (a b:Operand) (ty:Nat) (pos:String) (af:Array Edge) (K:St->Prop) (st:St):xY X F C m0 ⟨dst,.makeSlice t a b,ty,pos,af,none⟩ K st=match wO X (mkB F dst) st.m st (.makeSlice t a b) with|some (d,m)=>K ((st.put dst d).setM m)|none=>False:=rfl
def xSj (k:IntKind) (a b:Int):Int:=k.wrap (BitVec.ofInt k.bits a ^^^ BitVec.ofInt k.bits b).toNat
@[go_sem] theorem xRv (P:Program) (t:Nat) (k k':IntKind) (a b:Int):zAa P t .xor (.int k a) (.int k' b)=bif decide (k=k') then some (.int k (xSj k a b)) else none:=rfl
theorem yCv (e:Int):∃b:UInt8,IntKind.u8.wrap e=(b.toNat:Int):=by
 have h:IntKind.u8.wrap e=e % 256:=by simp[IntKind.wrap,IntKind.bits,IntKind.signed]
 have h1:0<=e % 256/\e % 256<256:=by omega
 rw[h]
 generalize e % 256=x at *
 refine⟨UInt8.ofNat x.toNat,?_⟩
 rw[UInt8.toNat_ofNat']
 omega
theorem zPr (L:List UInt8):wB (L.map yT)=false:=zOn (λ_=>rfl) L
theorem yXs (n:Int):∃s:Str,zA (XG G) TT 87 [.int .i64 n]=some (.str s)/\s.length=8:=by
 suffices h:∃v,zA (XG G) TT 87 [.int .i64 n]=some v/\∃s:Str,v=.str s/\s.length=8 by
  obtain⟨v,h1,s,rfl,h2⟩:=h;exact⟨s,h1,h2⟩
 refine zS T87 rfl (by simp only[go_sem]) ?_
 unfold Tryz.f87 F87
 simp only[Option.getD_some]
 have t8:Int.toNat 8=8:=rfl
 have h6:zV [D.int .u8 0,D.int .u8 0,D.int .u8 0,D.int .u8 0,D.int .u8 0,D.int .u8 0,D.int .u8 0,D.int .u8 0]=(List.replicate 8 (0:UInt8)).map yT:=rfl
 generalize hz:List.replicate 8 (0:UInt8)=z at *
 have hzl:z.length=8:=by rw[<-hz];rfl
 clear hz
 simp +decide only[go_sem]
 refine gw (an h6 t8) ?_
 refine lpC (T:=Nat×List UInt8) [3,4,11,12] (λp=>[(12,.int .i64 (p.1:Int))]) (λ_=>[]) (λp=>⟨[p.2.map yT],[]⟩) (λp=>p.1<=8/\p.2.length=8) (λp=>8-p.1) (0,z) (by exact⟨by omega,hzl⟩) ?_
 rintro ⟨k,L⟩ ⟨hk,hL⟩
 simp only at hk hL ⊢
 by_cases h:k<8
 ·have l1:((k:Int)<((8:Nat):Int))=True:=eq_true (by omega)
  have l2:((k:Int)<8)=True:=eq_true (by omega)
  have w1:IntKind.i64.wrap (8*(k:Int))=((8*k:Nat):Int):=by rw[yD _ (by omega)];omega
  have w2:IntKind.i64.wrap (56-((8*k:Nat):Int))=((56-8*k:Nat):Int):=by rw[yD _ (by omega)];omega
  have w3:(((56-8*k:Nat):Int)<0)=False:=eq_false (by omega)
  have w4:=yU k (by omega)
  obtain⟨b,hb⟩:=yCv ((xSj IntKind.u64 (IntKind.u64.wrap n) 9223372036854775808).fdiv (2 ^ min (56-8*k) 64))
  have o1:=zPr L
  have o2:(L.map yT).length=8:=by rw[List.length_map];exact hL
  have o3:(k+1<=8)=True:=eq_true (by omega)
  have o4:(L.map yT).set k (D.int .u8 (b.toNat:Int))=(L.set k b).map yT:=by rw[List.map_set];rfl
  refine gw (an9 h6 t8 l1 l2 w1 w2 w3 w4 (an5 o1 o2 o3 hb o4)) ?_
  exact⟨(k+1,L.set k b),by simp +decide only[go_sem]<;>rfl,⟨by simp only;omega,by simp only[List.length_set];exact hL⟩,by simp only;omega⟩
 ·have l1:((k:Int)<((8:Nat):Int))=False:=eq_false (by omega)
  have l2:((k:Int)<8)=False:=eq_false (by omega)
  have o1:=zPr L
  have o2:(L.map yT).length=8:=by rw[List.length_map];exact hL
  have o3:(L.map yT).take 8=L.map yT:=List.take_of_length_le (by omega)
  have o4:=zEw L
  have o5:(8<=8)=True:=eq_true (by omega)
  refine gw (an9 h6 t8 l1 l2 o1 o2 o3 o4 o5) ?_
  simp +decide only[go_sem]
  exact⟨L,rfl,hL⟩
theorem ySq (bx:List (List D)) (l:List D) (s:List UInt8) (h:s.length=8):zZ 1 ⟨bx,zIs [] l⟩ (zAl [] 1 l) (s.map yT)=some (zAl [] 1 (l++s.map yT),⟨bx,zIs [] (l++s.map yT)⟩):=by
 cases s with
 |nil=>simp at h
 |cons a r=>exact yLy bx [] 1 l (yT a) (r.map yT)
theorem yBv (L:List UInt8) (b:UInt8):L.map yT++[D.int .u8 (b.toNat:Int)]=(L++[b]).map yT:=by rw[List.map_append];rfl
theorem xOr (L:List UInt8) (b c:UInt8):L.map yT++[D.int .u8 (b.toNat:Int),D.int .u8 (c.toNat:Int)]=(L++[b,c]).map yT:=by rw[List.map_append];rfl
theorem yNy (bx:List (List D)) (L:List UInt8) (v:Val) (hL:L.length<=100000) (hv:v.s.length<=1000) :
  ∃(L':List UInt8) (bx':List (List D)),zG (XG G) TT 149 ⟨bx,zIs [] (L.map yT)⟩ [zAl [] 1 (L.map yT),vD v]=some (zAl [] 1 (L'.map yT),⟨bx',zIs [] (L'.map yT)⟩)/\L'.length<=L.length+2010:=by
 suffices h:∃d m',zG (XG G) TT 149 ⟨bx,zIs [] (L.map yT)⟩ [zAl [] 1 (L.map yT),vD v]=some (d,m')/\∃(L':List UInt8) (bx':List (List D)),d=zAl [] 1 (L'.map yT)/\m'=⟨bx',zIs [] (L'.map yT)⟩/\L'.length<=L.length+2010 by
  obtain⟨d,m',h1,L',bx',rfl,rfl,h2⟩:=h;exact⟨L',bx',h1,h2⟩
 refine zO T149 rfl ?_
 unfold Tryz.f149 xKc
 simp only[Option.getD_some]
 obtain⟨s8,h87,h8⟩:=yXs (G:=G) v.n
 have hl1:(L.map yT).length=L.length:=List.length_map ..
 have hl2:(L.length+1<=16777216)=True:=eq_true (by omega)
 simp +decide only[go_sem,ra]
 cases k1:(v.k==1)
 ·cases k2:(v.k==2)
  ·have e1:=yBv L 1
   have e1':L.map yT++[D.int .u8 1]=(L++[1]).map yT:=e1
   refine gw (an6 h87 hl1 hl2 k1 k2 e1') ?_
   simp +decide only[go_sem]
   exact⟨L++[1],bx,rfl,rfl,by simp⟩
  ·have e1:L.map yT++[D.int .u8 3]=(L++[3]).map yT:=yBv L 3
   have b1:(v.s.length<=16777216)=True:=eq_true (by omega)
   have b2:=zPr v.s
   have b3:∀x:List D,(bx++[x])[bx.length]?=some x:=λx=>by simp
   have b4:(v.s.map yT).length=v.s.length:=List.length_map ..
   refine gw (an9 h87 hl1 hl2 k1 k2 e1 b1 b2 (an b3 b4)) ?_
   refine lpC (T:=Nat×List UInt8) [0,25,26,27] (λp=>[(27,.int .i64 (p.1:Int)),(0,zAl [] 1 (p.2.map yT))]) (λ_=>[]) (λp=>⟨bx++[v.s.map yT],zIs [] (p.2.map yT)⟩) (λp=>p.1<=v.s.length/\p.2.length<=L.length+1+2*p.1) (λp=>v.s.length-p.1) (0,L++[3]) (by exact⟨by omega,by simp⟩) ?_
   rintro ⟨k,M⟩ ⟨hk,hM⟩
   simp only at hk hM ⊢
   have m1:(M.map yT).length=M.length:=List.length_map ..
   have m2:(M.length+1<=16777216)=True:=eq_true (by omega)
   have m3:(M.length+2<=16777216)=True:=eq_true (by omega)
   by_cases h:k<v.s.length
   ·obtain⟨l_x,x,g_x,w_x⟩:=elm (L:=v.s) (k:=k) (by assumption) (by omega)
    have b5:(v.s.map yT)[k]?=some (D.int .u8 (x.toNat:Int)):=by rw[List.getElem?_map,g_x];rfl
    have b6:k+1<=v.s.length:=h
    cases c1:(decide ((x.toNat:Int)<=1))
    ·have b7:=yBv M x
     refine gw (an9 h87 hl1 hl2 k1 k2 e1 b1 b2 (an9 b3 b4 m1 m2 m3 l_x g_x w_x (an4 b5 b6 c1 b7))) ?_
     exact⟨(k+1,M++[x]),by simp +decide only[go_sem]<;>rfl,⟨by simp only;omega,by simp only[List.length_append,List.length_singleton];omega⟩,by simp only;omega⟩
    ·obtain⟨y,hy⟩:=yCv ((x.toNat:Int)+1)
     have b7:M.map yT++[D.int .u8 1,D.int .u8 (y.toNat:Int)]=(M++[1,y]).map yT:=xOr M 1 y
     refine gw (an9 h87 hl1 hl2 k1 k2 e1 b1 b2 (an9 b3 b4 m1 m2 m3 l_x g_x w_x (an5 b5 b6 c1 hy b7))) ?_
     exact⟨(k+1,M++[1,y]),by simp +decide only[go_sem]<;>rfl,⟨by simp only;omega,by simp only[List.length_append,List.length_cons,List.length_nil];omega⟩,by simp only;omega⟩
   ·have l_x:((k:Int)<((v.s).length:Int))=False:=by simp;omega
    have b7:M.map yT++[D.int .u8 0]=(M++[0]).map yT:=yBv M 0
    refine gw (an9 h87 hl1 hl2 k1 k2 e1 b1 b2 (an7 b3 b4 m1 m2 m3 l_x b7)) ?_
    simp +decide only[go_sem]
    exact⟨M++[0],bx++[v.s.map yT],rfl,rfl,by simp only[List.length_append,List.length_singleton];omega⟩
 ·have e1:L.map yT++[D.int .u8 2]=(L++[2]).map yT:=yBv L 2
  have e2:=ySq bx ((L++[2]).map yT) s8 h8
  have e3:((L++[2]).map yT).length=L.length+1:=by simp
  have e4:(s8.map yT).length=8:=by rw[List.length_map,h8]
  have e5:(L.length+1+8<=16777216)=True:=eq_true (by omega)
  refine gw (an9 h87 hl1 hl2 k1 e1 e2 e3 e4 e5) ?_
  simp +decide only[go_sem]
  refine⟨(L++[2])++s8,bx,?_,?_,?_⟩
  ·rw[List.map_append (l₁:=L++[2])]
  ·rw[List.map_append (l₁:=L++[2])]
  ·simp[h8]
@[go_sem] theorem xPz (m:Mem) (b:List Nat) (L:List UInt8):zIl m (zAl b 1 (L.map yT))=some (.str L):=by
 cases L with
 |nil=>rfl
 |cons a r=>
  show zIl m (.slice (some (b.length+1)) 1 ((a::r).map yT))=_
  rw[zUy,zEw]
theorem xOw (r:Sl Val) (c:Sl I64) (hr:∀v∈r.items,v.s.length<=1000) (hc:c.items.length<=20):∃s:Str,zA (XG G) TT 86 [sl 3 vD r,sl 1 I c]=some (.str s)/\s.length<=100000:=by
 suffices h:∃v,zA (XG G) TT 86 [sl 3 vD r,sl 1 I c]=some v/\∃s:Str,v=.str s/\s.length<=100000 by
  obtain⟨v,h1,s,rfl,h2⟩:=h;exact⟨s,h1,h2⟩
 refine zS T86 rfl (by simp only[go_sem]) ?_
 unfold Tryz.f86 F86
 simp only[Option.getD_some]
 have hlt:=r.lt
 have hlt2:=c.lt
 simp +decide only[go_sem,ra]
 refine gw trivial ?_
 refine lpC (T:=Nat×List UInt8×List (List D)) [0,5,9,10,11] (λp=>[(11,.int .i64 (p.1:Int)),(5,zAl [] 1 (p.2.1.map yT))]) (λ_=>[]) (λp=>⟨p.2.2,zIs [] (p.2.1.map yT)⟩) (λp=>p.1<=c.items.length/\p.2.1.length<=2010*p.1) (λp=>c.items.length-p.1) (0,[],[]) (by simp) ?_
 rintro ⟨k,L,bx⟩ ⟨hk,hL⟩
 simp only at hk hL ⊢
 by_cases h:k<c.items.length
 ·obtain⟨l_x,x,g_x,w_x⟩:=elm (L:=c.items) (k:=k) (by assumption) (by omega)
  have fin:∀{L':List UInt8},L'.length<=L.length+2010->L'.length<=2010*(k+1):=λh=>by omega
  obtain⟨L0,bx0,ha0,hl0⟩:=yNy (G:=G) bx L ⟨0,0,[]⟩ (by omega) (by simp)
  simp only[zBg] at ha0
  cases c1:(decide (0<=x.1))
  ·refine gw (an5 l_x g_x w_x c1 ha0) ?_
   exact⟨(k+1,L0,bx0),by simp +decide only[go_sem]<;>rfl,⟨h,fin hl0⟩,by simp only;omega⟩
  ·cases c2:(decide (x.1<(r.items.length:Int)))
   ·refine gw (an6 l_x g_x w_x c1 c2 ha0) ?_
    exact⟨(k+1,L0,bx0),by simp +decide only[go_sem]<;>rfl,⟨h,fin hl0⟩,by simp only;omega⟩
   ·have hx:∃j:Nat,x.1=(j:Int)/\j<r.items.length:=by
     have h1:=of_decide_eq_true c1
     have h2:=of_decide_eq_true c2
     exact⟨x.1.toNat,by omega,by omega⟩
    obtain⟨j,hj,hj2⟩:=hx
    rw[hj] at c1 c2
    obtain⟨l_v,v,g_v,w_v⟩:=elm (L:=r.items) (k:=j) (by assumption) (by omega)
    obtain⟨L',bx',ha,hl⟩:=yNy (G:=G) bx L v (by omega) (hr v (List.mem_of_getElem? g_v))
    simp only[zBg] at ha
    refine gw (an9 l_x g_x w_x c1 c2 l_v g_v w_v (an ha hj)) ?_
    exact⟨(k+1,L',bx'),by simp +decide only[go_sem]<;>rfl,⟨h,fin hl⟩,by simp only;omega⟩
 ·have l_x:((k:Int)<((c.items).length:Int))=False:=by simp;omega
  refine gw l_x ?_
  simp +decide only[go_sem]
  exact⟨L,rfl,by omega⟩
def slT {α:Type} (tag:Option Nat) (k:Nat) (f:α->D) (s:Sl α):D:=match s.1 with|none=>.nil|some l=>.slice tag k (l.map f)
theorem yJk {α:Type} (k:Nat) (f:α->D) (s:Sl α):slT none k f s=sl k f s:=rfl
theorem zUl (k:Nat) (m:Mem) (x:D) (r:List D):zZ k m (.slice (some 0) k []) (x::r)=some (.slice (some (m.toks.length+1)) k (x::r),⟨m.boxes,m.toks++[(x::r).length]⟩):=by
 simp[zZ]
theorem yEa (m:Mem) (c:Sl Val) (hl:c.items.length<=16777216):∃(t:Nat) (tk:List Nat),zG (XG G) TT 89 m [sl 3 vD c]=some (slT (some t) 3 vD c,⟨m.boxes,m.toks++tk⟩):=by
 suffices h:∃d m',zG (XG G) TT 89 m [sl 3 vD c]=some (d,m')/\∃(t:Nat) (tk:List Nat),d=slT (some t) 3 vD c/\m'=⟨m.boxes,m.toks++tk⟩ by
  obtain⟨d,m',h1,t,tk,rfl,rfl⟩:=h;exact⟨t,tk,h1⟩
 refine zO T89 rfl ?_
 unfold Tryz.f89 F89
 simp only[Option.getD_some]
 obtain⟨o,ho⟩:=c
 cases o with
 |none=>
  show wpI _ _ _ _ _ _
  simp only[sl,slT]
  simp +decide only[go_sem]
  refine gw trivial ?_
  simp +decide only[go_sem]
  exact⟨0,[],by trivial,by simp⟩
 | some l=>
  have hl:l.length<=16777216:=hl
  simp only[sl,slT]
  simp +decide only[go_sem]
  cases l with
  |nil=>
   simp only[List.map_nil]
   refine gw trivial ?_
   simp +decide only[go_sem]
   exact⟨0,[],rfl,by simp⟩
  |cons a r=>
   have hl1:((a::r).map vD).length=(a::r).length:=List.length_map ..
   have ha:=zUl 3 m (vD a) (r.map vD)
   have he:vD a::r.map vD=(a::r).map vD:=rfl
   rw[he] at ha
   rw[hl1] at ha
   generalize (a::r).map vD=L at *
   generalize (a::r).length=n at *
   have hl2:(n<=16777216)=True:=eq_true hl
   refine gw (an3 hl1 ha hl2) ?_
   simp +decide only[go_sem]
   exact⟨_,_,rfl,rfl⟩
theorem yLn (m:Mem) (c:Sl Col) (hl:c.items.length<=16777216):∃(t:Nat) (tk:List Nat),zG (XG G) TT 166 m [sl 6 yO c]=some (slT (some t) 6 yO c,⟨m.boxes,m.toks++tk⟩):=by
 suffices h:∃d m',zG (XG G) TT 166 m [sl 6 yO c]=some (d,m')/\∃(t:Nat) (tk:List Nat),d=slT (some t) 6 yO c/\m'=⟨m.boxes,m.toks++tk⟩ by
  obtain⟨d,m',h1,t,tk,rfl,rfl⟩:=h;exact⟨t,tk,h1⟩
 refine zO T166 rfl ?_
 unfold Tryz.f166 xJr
 simp only[Option.getD_some]
 obtain⟨o,ho⟩:=c
 cases o with
 |none=>
  show wpI _ _ _ _ _ _
  simp only[sl,slT]
  simp +decide only[go_sem]
  refine gw trivial ?_
  simp +decide only[go_sem]
  exact⟨0,[],by trivial,by simp⟩
 | some l=>
  have hl:l.length<=16777216:=hl
  simp only[sl,slT]
  simp +decide only[go_sem]
  cases l with
  |nil=>
   simp only[List.map_nil]
   refine gw trivial ?_
   simp +decide only[go_sem]
   exact⟨0,[],rfl,by simp⟩
  |cons a r=>
   have hl1:((a::r).map yO).length=(a::r).length:=List.length_map ..
   have ha:=zUl 6 m (yO a) (r.map yO)
   have he:yO a::r.map yO=(a::r).map yO:=rfl
   rw[he] at ha
   rw[hl1] at ha
   generalize (a::r).map yO=L at *
   generalize (a::r).length=n at *
   have hl2:(n<=16777216)=True:=eq_true hl
   refine gw (an3 hl1 ha hl2) ?_
   simp +decide only[go_sem]
   exact⟨_,_,rfl,rfl⟩
theorem zPo (m:Mem) (tag:Option Nat) (c:Sl I64) (hl:c.items.length<=16777216):∃(t:Nat) (tk:List Nat),zG (XG G) TT 168 m [slT tag 1 I c]=some (slT (some t) 1 I c,⟨m.boxes,m.toks++tk⟩):=by
 suffices h:∃d m',zG (XG G) TT 168 m [slT tag 1 I c]=some (d,m')/\∃(t:Nat) (tk:List Nat),d=slT (some t) 1 I c/\m'=⟨m.boxes,m.toks++tk⟩ by
  obtain⟨d,m',h1,t,tk,rfl,rfl⟩:=h;exact⟨t,tk,h1⟩
 refine zO T168 rfl ?_
 unfold Tryz.f168 xJq
 simp only[Option.getD_some]
 obtain⟨o,ho⟩:=c
 cases o with
 |none=>
  show wpI _ _ _ _ _ _
  simp only[slT]
  simp +decide only[go_sem]
  refine gw trivial ?_
  simp +decide only[go_sem]
  exact⟨0,[],by trivial,by simp⟩
 | some l=>
  have hl:l.length<=16777216:=hl
  simp only[slT]
  simp +decide only[go_sem]
  cases l with
  |nil=>
   simp only[List.map_nil]
   refine gw trivial ?_
   simp +decide only[go_sem]
   exact⟨0,[],rfl,by simp⟩
  |cons a r=>
   have hl1:((a::r).map I).length=(a::r).length:=List.length_map ..
   have ha:=zUl 1 m (I a) (r.map I)
   have he:I a::r.map I=(a::r).map I:=rfl
   rw[he] at ha
   rw[hl1] at ha
   generalize (a::r).map I=L at *
   generalize (a::r).length=n at *
   have hl2:(n<=16777216)=True:=eq_true hl
   refine gw (an3 hl1 ha hl2) ?_
   simp +decide only[go_sem]
   exact⟨_,_,rfl,rfl⟩
theorem yLm (m:Mem) (c:Sl (Sl I64)) (hl:c.items.length<=16777216):∃(d:D) (bx:List (List D)),zG (XG G) TT 100167 m [sl 1 (sl 1 I) c]=some (d,⟨m.boxes++bx,m.toks⟩)/\((c.items=[]/\bx=[]/\(d=.nil\/d=.slice (some 0) 1 []))\/(c.items≠[]/\bx=[(zV (c.items.map (sl 1 I)))]/\d=.rsl m.boxes.length 0 c.items.length 1)):=by
 suffices h:∃d m',zG (XG G) TT 100167 m [sl 1 (sl 1 I) c]=some (d,m')/\∃(bx:List (List D)),m'=⟨m.boxes++bx,m.toks⟩/\((c.items=[]/\bx=[]/\(d=.nil\/d=.slice (some 0) 1 []))\/(c.items≠[]/\bx=[(zV (c.items.map (sl 1 I)))]/\d=.rsl m.boxes.length 0 c.items.length 1)) by
  obtain⟨d,m',h1,bx,rfl,h2⟩:=h;exact⟨d,bx,h1,h2⟩
 refine zO T100167 rfl ?_
 unfold Tryz.f167 zUr
 simp only[Option.getD_some]
 obtain⟨o,ho⟩:=c
 cases o with
 |none=>
  simp only[sl]
  simp +decide only[go_sem]
  refine gw trivial ?_
  simp +decide only[go_sem]
  exact⟨[],by simp,.inl ⟨by trivial,by trivial,.inl (by trivial)⟩⟩
 | some l=>
  have hl:l.length<=16777216:=hl
  show wpI _ _ _ _ _ _
  simp only[sl,Sl.items,Option.getD_some]
  simp +decide only[go_sem]
  cases l with
  |nil=>
   simp only[List.map_nil]
   refine gw trivial ?_
   simp +decide only[go_sem]
   exact⟨[],by simp,.inl ⟨by trivial,by trivial,.inr (by trivial)⟩⟩
  |cons a r=>
   have hl1:((a::r).map (sl 1 I)).length=(a::r).length:=List.length_map ..
   have ha:vX 1 m (.slice (some 0) 1 []) [] ((a::r).map (sl 1 I))=some (.rsl m.boxes.length 0 ((a::r).map (sl 1 I)).length 1,⟨m.boxes++[zV ((a::r).map (sl 1 I))],m.toks⟩):=rfl
   have hne:a::r≠[]:=by simp
   rw[hl1] at ha
   generalize hL:(a::r).map (sl 1 I)=L at *
   generalize a::r=l at *
   have hl2:(l.length<=16777216)=True:=eq_true hl
   refine gw (an3 hl1 ha hl2) ?_
   simp +decide only[go_sem]
   exact⟨_,rfl,.inr ⟨hne,rfl,by trivial⟩⟩
theorem yLl (m:Mem) (c:Sl (Fgn)) (hl:c.items.length<=16777216):∃(d:D) (bx:List (List D)),zG (XG G) TT 100169 m [sl 3 yH c]=some (d,⟨m.boxes++bx,m.toks⟩)/\((c.items=[]/\bx=[]/\(d=.nil\/d=.slice (some 0) 3 []))\/(c.items≠[]/\bx=[(zV (c.items.map yH))]/\d=.rsl m.boxes.length 0 c.items.length 3)):=by
 suffices h:∃d m',zG (XG G) TT 100169 m [sl 3 yH c]=some (d,m')/\∃(bx:List (List D)),m'=⟨m.boxes++bx,m.toks⟩/\((c.items=[]/\bx=[]/\(d=.nil\/d=.slice (some 0) 3 []))\/(c.items≠[]/\bx=[(zV (c.items.map yH))]/\d=.rsl m.boxes.length 0 c.items.length 3)) by
  obtain⟨d,m',h1,bx,rfl,h2⟩:=h;exact⟨d,bx,h1,h2⟩
 refine zO T100169 rfl ?_
 unfold Tryz.f169 zUq
 simp only[Option.getD_some]
 obtain⟨o,ho⟩:=c
 cases o with
 |none=>
  simp only[sl]
  simp +decide only[go_sem]
  refine gw trivial ?_
  simp +decide only[go_sem]
  exact⟨[],by simp,.inl ⟨by trivial,by trivial,.inl (by trivial)⟩⟩
 | some l=>
  have hl:l.length<=16777216:=hl
  show wpI _ _ _ _ _ _
  simp only[sl,Sl.items,Option.getD_some]
  simp +decide only[go_sem]
  cases l with
  |nil=>
   simp only[List.map_nil]
   refine gw trivial ?_
   simp +decide only[go_sem]
   exact⟨[],by simp,.inl ⟨by trivial,by trivial,.inr (by trivial)⟩⟩
  |cons a r=>
   have hl1:((a::r).map yH).length=(a::r).length:=List.length_map ..
   have ha:vX 3 m (.slice (some 0) 3 []) [] ((a::r).map yH)=some (.rsl m.boxes.length 0 ((a::r).map yH).length 3,⟨m.boxes++[zV ((a::r).map yH)],m.toks⟩):=rfl
   have hne:a::r≠[]:=by simp
   rw[hl1] at ha
   generalize hL:(a::r).map yH=L at *
   generalize a::r=l at *
   have hl2:(l.length<=16777216)=True:=eq_true hl
   refine gw (an3 hl1 ha hl2) ?_
   simp +decide only[go_sem]
   exact⟨_,rfl,.inr ⟨hne,rfl,by trivial⟩⟩
end Go.Eng
