/- A part of the proof: see the last text. -/
import Derived.Test.YtggiaoaballdgaaGreatDoorJ16
set_option linter.unusedSimpArgs false
set_option linter.unusedVariables false
namespace Go.Eng
open Go Go.Proofs
open Nat renaming reduceAdd → ra, reduceMul → rb, reduceSub → rc
set_option maxRecDepth 20000
set_option maxHeartbeats 32000000
attribute [local irreducible] wpI xU
variable {G:Nat->Option (List D)}
def yMl (x y:Val):Int:=bif decide (x.n<y.n)||Op.bytesLess x.s y.s then -1 else bif decide (y.n<x.n)||!(Op.bytesLess x.s y.s||x.s==y.s) then 1 else 0
theorem yJt (x y:Val):zA (XG G) TT 121 [vD x,vD y]=some (.int .i64 (yMl x y)):=by
 refine zD T121 rfl (by simp only[go_sem]) ?_
 unfold Tryz.f121 xKv
 simp only[Option.getD_some]
 have b1:(false||false)=false:=rfl
 have b2:(false||true)=true:=rfl
 have b3:(!false)=true:=rfl
 have b4:(!true)=false:=rfl
 have b5:∀b:Bool,(true||b)=true:=λ_=>rfl
 have b6:∀b:Bool,(b||true)=true:=λb=>by cases b<;>rfl
 simp +decide only[go_sem,ra]
 cases c1:(decide (x.n<y.n))
 ·cases c2:(Op.bytesLess x.s y.s)
  ·cases c3:(decide (y.n<x.n))
   ·cases c4:(x.s==y.s)
    ·refine gw (an9 b1 b2 b3 b4 b5 b6 c1 c2 (an c3 c4)) ?_
     simp +decide only[go_sem]
     simp only[b1,b2,b3,c1,c2,c3,c4,yMl,cond_true,cond_false]
    ·refine gw (an9 b1 b2 b3 b4 b5 b6 c1 c2 (an c3 c4)) ?_
     simp +decide only[go_sem]
     simp only[b1,b2,b4,c1,c2,c3,c4,yMl,cond_false]
   ·refine gw (an9 b1 b2 b3 b4 b5 b6 c1 c2 c3) ?_
    simp +decide only[go_sem]
    simp only[b1,b5,c1,c2,c3,yMl,cond_true,cond_false,Bool.false_or]
  ·refine gw (an8 b1 b2 b3 b4 b5 b6 c1 c2) ?_
   simp +decide only[go_sem]
   simp only[b2,b4,b5,c1,c2,yMl,cond_true,Bool.or_false]
 ·refine gw (an7 b1 b2 b3 b4 b5 b6 c1) ?_
  simp +decide only[go_sem]
  simp only[b5,c1,yMl,cond_true]
theorem yXr (b:Bool):zA (XG G) TT 119 [.bool b]=some (.int .i64 (ofB b)):=by
 refine zD T119 rfl (by simp only[go_sem]) ?_
 unfold Tryz.f119 xKw
 simp only[Option.getD_some]
 simp +decide only[go_sem]
 cases b
 ·refine gw trivial ?_
  simp +decide only[go_sem]
  rfl
 ·refine gw trivial ?_
  simp +decide only[go_sem]
  rfl
theorem zXm :∀a b:Str,Op.bytesLess a b=decide (zCg a b<0)
 |[],[]=>by simp[Op.bytesLess,Lib.compareBytes]
 |[],_::_=>by simp[Op.bytesLess,Lib.compareBytes]
 |_::_,[]=>by simp[Op.bytesLess,Lib.compareBytes]
 | a ::r,b::t=>by
  have ih:=zXm r t
  unfold zCg at *
  rw[Op.bytesLess,Lib.compareBytes,ih]
  by_cases h1:a<b
  ·simp[h1]
  ·by_cases h2:b<a
   ·have h3:(a==b)=false:=by
     cases e:(a==b) with
     |false=>rfl
     |true=>rw[eq_of_beq e] at h2;exact absurd h2 (by rw[zTh];omega)
    simp[h1,h2,h3]
   ·have h3:a=b:=zEb (by rw[zTh] at h1 h2;omega)
    simp[h3]
theorem zSi (s:Str):zCg s s=0:=zGf.2 rfl
theorem yQl {z:Int} {x y:Val} (hx:OKV z x) (hy:OKV z y) (h1:x.k≠0) (h2:y.k≠0):yMl x y=yHa x y:=by
 unfold yMl yHa
 rw[zXm]
 cases hx with
 |nul=>exact absurd rfl h1
 | int n=>
  cases hy with
  |nul=>exact absurd rfl h2
  |int n'=>
   simp only[zSi]
   unfold uG
   by_cases c1:n<n'<;>by_cases c2:n'<n<;>simp[c1,c2]<;>omega
 | txt s hs hl=>
  cases hy with
  |nul=>exact absurd rfl h2
  | txt s' hs' hl'=>
   simp only[uC.2 rfl,if_true]
   rcases zPm s s' with e|e|e
   ·simp[e]
   ·rw[e];have:=zGf.1 e;simp[this]
   ·have:(s==s')=false:=by
     cases q:(s==s') with
     |false=>rfl
     |true=>rw[eq_of_beq q,zSi] at e;cases e
    simp[e,this]
theorem yLh (r:Sl Val) (e:ExR) (h1:e.a.1=1):zA (XG G) TT 71 [e.enc,sl 3 vD r]=some (.int .i64 2):=by
 refine zD T71 rfl (by simp only[go_sem]) ?_
 unfold Tryz.f71 F71
 simp only[Option.getD_some]
 have e1:(e.a.1==1)=true:=by simp[h1]
 simp +decide only[go_sem,ra]
 refine gw e1 ?_
 simp +decide only[go_sem]
theorem yLg (r:Sl Val) (e:ExR) (x:Ex) (h0:e.args.items=[x]) (h:e.a.1=17\/e.a.1=20) (w:Val) (t:Int)
  (hv:e.a.1=17->zA (XG G) TT 120 [zM x,sl 3 vD r]=some (vD w)) (hc:e.a.1=20->zA (XG G) TT 71 [zM x,sl 3 vD r]=some (.int .i64 t)) (ht:Tri t) :
  zA (XG G) TT 71 [e.enc,sl 3 vD r]=some (.int .i64 (if e.a.1=17 then ofB (w.k==0) else yHb t)):=by
 have at0:atI e.args.items 0=some x:=by rw[h0];rfl
 have e1:(e.a.1==1)=false:=by simp;omega
 refine zD T71 rfl (by simp only[go_sem]) ?_
 unfold Tryz.f71 F71
 simp only[Option.getD_some]
 simp +decide only[go_sem,ra]
 rcases h with h|h
 ·have e17:(e.a.1==17)=true:=by simp[h]
  have hv:=hv h
  simp only[zBg] at hv
  have ho:=yXr (G:=G) (w.k==0)
  rw[if_pos h]
  refine gw (an5 e1 at0 e17 hv ho) ?_
  simp +decide only[go_sem]
 ·have e17:(e.a.1==17)=false:=by simp[h]
  have e18:(e.a.1==18)=false:=by simp[h]
  have e19:(e.a.1==19)=false:=by simp[h]
  have e20:(e.a.1==20)=true:=by simp[h]
  have hc:=hc h
  rw[if_neg (by omega)]
  cases c2:(t==2)
  ·refine gw (an8 e1 at0 e17 e18 e19 e20 hc c2) ?_
   simp +decide only[go_sem]
   rw[yHb,if_neg (by simpa using c2)]
   have:wr (1-t)=1-t:=by unfold Tri at ht;exact yD _ (by omega)
   show D.int _ (wr (1-t))=_
   rw[this]
  ·refine gw (an8 e1 at0 e17 e18 e19 e20 hc c2) ?_
   simp +decide only[go_sem]
   rw[yHb,if_pos (by simpa using c2)]
theorem yLf (r:Sl Val) (e:ExR) (x y:Ex) (h0:e.args.items=[x,y]) (h:e.a.1=18\/e.a.1=19) (t u:Int)
  (hc:zA (XG G) TT 71 [zM x,sl 3 vD r]=some (.int .i64 t)) (hd:zA (XG G) TT 71 [zM y,sl 3 vD r]=some (.int .i64 u)) :
  zA (XG G) TT 71 [e.enc,sl 3 vD r]=some (.int .i64 (if e.a.1=18 then zYw t u else or3 t u)):=by
 have at0:atI e.args.items 0=some x:=by rw[h0];rfl
 have at1:atI e.args.items 1=some y:=by rw[h0];rfl
 have e1:(e.a.1==1)=false:=by simp;omega
 have e17:(e.a.1==17)=false:=by simp;omega
 refine zD T71 rfl (by simp only[go_sem]) ?_
 unfold Tryz.f71 F71
 simp only[Option.getD_some]
 have b1:(true||true)=true:=rfl
 simp +decide only[go_sem,ra]
 rcases h with h|h
 ·have e18:(e.a.1==18)=true:=by simp[h]
  have w0:IntKind.i64.wrap (e.a.1-18)=0:=by rw[h];rfl
  have w1:IntKind.i64.wrap (1-0)=1:=rfl
  rw[if_pos h]
  cases t0:(t==0)
  ·cases u0:(u==0)
   ·cases t2:(t==2)
    ·cases u2:(u==2)
     ·refine gw (an9 e1 e17 at0 at1 hc hd e18 w0 (an5 w1 t0 u0 t2 u2)) ?_
      simp +decide only[go_sem]
      simp at t0 u0 t2 u2
      simp[zYw,t0,u0,t2,u2]
     ·refine gw (an9 e1 e17 at0 at1 hc hd e18 w0 (an5 w1 t0 u0 t2 u2)) ?_
      simp +decide only[go_sem]
      simp at t0 u0 t2 u2
      simp[zYw,t0,t2,u2]
    ·refine gw (an9 e1 e17 at0 at1 hc hd e18 w0 (an4 w1 t0 u0 t2)) ?_
     simp +decide only[go_sem]
     simp at t0 u0 t2
     simp[zYw,u0,t2]
   ·refine gw (an9 e1 e17 at0 at1 hc hd e18 w0 (an3 w1 t0 u0)) ?_
    simp +decide only[go_sem]
    simp at t0 u0
    simp[zYw,t0,u0]
  ·refine gw (an9 e1 e17 at0 at1 hc hd e18 w0 (an w1 t0)) ?_
   simp +decide only[go_sem]
   simp at t0
   simp[zYw,t0]
 ·have e18:(e.a.1==18)=false:=by simp[h]
  have e19:(e.a.1==19)=true:=by simp[h]
  have w0:IntKind.i64.wrap (e.a.1-18)=1:=by rw[h];rfl
  have w1:IntKind.i64.wrap (1-1)=0:=rfl
  rw[if_neg (by omega)]
  cases t0:(t==1)
  ·cases u0:(u==1)
   ·cases t2:(t==2)
    ·cases u2:(u==2)
     ·refine gw (an9 e1 e17 at0 at1 hc hd e18 e19 (an6 w0 w1 t0 u0 t2 u2)) ?_
      simp +decide only[go_sem]
      simp at t0 u0 t2 u2
      simp[or3,t0,u0,t2,u2]
     ·refine gw (an9 e1 e17 at0 at1 hc hd e18 e19 (an6 w0 w1 t0 u0 t2 u2)) ?_
      simp +decide only[go_sem]
      simp at t0 u0 t2 u2
      simp[or3,t0,t2,u2]
    ·refine gw (an9 e1 e17 at0 at1 hc hd e18 e19 (an5 w0 w1 t0 u0 t2)) ?_
     simp +decide only[go_sem]
     simp at t0 u0 t2
     simp[or3,u0,t2]
   ·refine gw (an9 e1 e17 at0 at1 hc hd e18 e19 (an4 w0 w1 t0 u0)) ?_
    simp +decide only[go_sem]
    simp at t0 u0
    simp[or3,t0,u0]
  ·refine gw (an9 e1 e17 at0 at1 hc hd e18 e19 (an3 w0 w1 t0)) ?_
   simp +decide only[go_sem]
   simp at t0
   simp[or3,t0]
theorem yLe (r:Sl Val) (e:ExR) (x y:Ex) (h0:e.args.items=[x,y]) (h:10<=e.a.1/\e.a.1<=16) (v w:Val) (z:Int) (hz:OKV z v) (hz':OKV z w)
  (hc:zA (XG G) TT 120 [zM x,sl 3 vD r]=some (vD v)) (hd:zA (XG G) TT 120 [zM y,sl 3 vD r]=some (vD w)) :
  zA (XG G) TT 71 [e.enc,sl 3 vD r]=some (.int .i64 (yMk e.a.1 v w)):=by
 have at0:atI e.args.items 0=some x:=by rw[h0];rfl
 have at1:atI e.args.items 1=some y:=by rw[h0];rfl
 have e1:(e.a.1==1)=false:=by simp;omega
 have e17:(e.a.1==17)=false:=by simp;omega
 have e18:(e.a.1==18)=false:=by simp;omega
 have e19:(e.a.1==19)=false:=by simp;omega
 have e20:(e.a.1==20)=false:=by simp;omega
 refine zD T71 rfl (by simp only[go_sem]) ?_
 unfold Tryz.f71 F71
 simp only[Option.getD_some]
 simp only[zBg] at hc hd
 simp +decide only[go_sem,ra]
 unfold yMk
 cases k0:(v.k==0)
 ·cases k1:(w.k==0)
  ·have k0':v.k≠0:=by simpa using k0
   have k1':w.k≠0:=by simpa using k1
   have ho:=yJt (G:=G) v w
   rw[yQl hz hz' k0' k1'] at ho
   have hf:=λb=>yXr (G:=G) b
   simp only[zBg] at ho
   rw[if_neg (by omega)]
   unfold yIe
   by_cases h10:e.a.1=10
   ·have f10:(e.a.1==10)=true:=by simp[h10]
    rw[if_neg (by omega),if_pos h10]
    refine gw (an9 e1 e17 e18 e19 e20 at0 at1 hc (an6 hd k0 k1 ho hf f10)) ?_
    simp +decide only[go_sem]
   have f10:(e.a.1==10)=false:=by simp[h10]
   rw[if_neg h10]
   by_cases h11:e.a.1=11
   ·have f11:(e.a.1==11)=true:=by simp[h11]
    rw[if_neg (by omega),if_pos h11]
    refine gw (an9 e1 e17 e18 e19 e20 at0 at1 hc (an7 hd k0 k1 ho hf f10 f11)) ?_
    simp +decide only[go_sem]
   have f11:(e.a.1==11)=false:=by simp[h11]
   rw[if_neg h11]
   by_cases h12:e.a.1=12
   ·have f12:(e.a.1==12)=true:=by simp[h12]
    rw[if_neg (by omega),if_pos h12]
    refine gw (an9 e1 e17 e18 e19 e20 at0 at1 hc (an8 hd k0 k1 ho hf f10 f11 f12)) ?_
    simp +decide only[go_sem]
   have f12:(e.a.1==12)=false:=by simp[h12]
   rw[if_neg h12]
   by_cases h13:e.a.1=13
   ·have f13:(e.a.1==13)=true:=by simp[h13]
    rw[if_neg (by omega),if_pos h13]
    refine gw (an9 e1 e17 e18 e19 e20 at0 at1 hc (an9 hd k0 k1 ho hf f10 f11 f12 f13)) ?_
    simp +decide only[go_sem]
   have f13:(e.a.1==13)=false:=by simp[h13]
   rw[if_neg h13]
   by_cases h14:e.a.1=14
   ·have f14:(e.a.1==14)=true:=by simp[h14]
    rw[if_neg (by omega),if_pos h14]
    refine gw (an9 e1 e17 e18 e19 e20 at0 at1 hc (an9 hd k0 k1 ho hf f10 f11 f12 (an f13 f14))) ?_
    simp +decide only[go_sem]
   have f14:(e.a.1==14)=false:=by simp[h14]
   rw[if_neg h14]
   by_cases h15:e.a.1=15
   ·have f15:(e.a.1==15)=true:=by simp[h15]
    rw[if_neg (by omega)]
    refine gw (an9 e1 e17 e18 e19 e20 at0 at1 hc (an9 hd k0 k1 ho hf f10 f11 f12 (an3 f13 f14 f15))) ?_
    simp +decide only[go_sem]
   have f15:(e.a.1==15)=false:=by simp[h15]
   have hl:v.s.length<=1000/\w.s.length<=1000:=by
    constructor
    ·cases hz<;>simp[nul]<;>omega
    ·cases hz'<;>simp[nul]<;>omega
   have hk:=yQy (G:=G) v.s w.s hl.1 hl.2
   rw[if_pos (by omega)]
   refine gw (an9 e1 e17 e18 e19 e20 at0 at1 hc (an9 hd k0 k1 ho hf f10 f11 f12 (an4 f13 f14 f15 hk))) ?_
   simp +decide only[go_sem]
  ·refine gw (an9 e1 e17 e18 e19 e20 at0 at1 hc (an3 hd k0 k1)) ?_
   simp +decide only[go_sem]
   rw[if_pos (.inr (by simpa using k1))]
 ·refine gw (an9 e1 e17 e18 e19 e20 at0 at1 hc (an hd k0)) ?_
  simp +decide only[go_sem]
  rw[if_pos (.inl (by simpa using k0))]
end Go.Eng
