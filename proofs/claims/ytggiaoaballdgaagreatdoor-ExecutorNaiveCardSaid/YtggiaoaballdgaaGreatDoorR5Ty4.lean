/- A part of the proof: see the last text. -/
import Derived.Test.YtggiaoaballdgaaGreatDoorR5Ty3
set_option linter.unusedSimpArgs false
set_option linter.unusedVariables false
namespace Go.Eng
open Go Go.Proofs
open Nat renaming reduceAdd → ra, reduceMul → rb, reduceSub → rc
set_option maxRecDepth 20000
set_option maxHeartbeats 32000000
attribute [local irreducible] wpI xU
variable {G:Nat->Option (List D)}
theorem zIk {l:List Int} {e:Tm} {t τ:Int} (h:TyP l e t) (hτ:0<=τ) (c:(t==0||t==τ)=true):(t=0\/t=τ)/\WT l e t:=by
 simp only[Bool.or_eq_true,beq_iff_eq] at c
 exact⟨c,h.resolve_left (by omega)⟩
theorem yPo (l:List Int) (V:Sl Col) (e:ExR) (x y:Ex) (h0:e.args.items=[x,y]) (ta tb:Int) (hx:zA (XG G) TT 164 [zM x,sl 5 vr V]=some (.int .i64 ta)) (hy:zA (XG G) TT 164 [zM y,sl 5 vr V]=some (.int .i64 tb)) (hX:TyP l (tmE x) ta) (hY:TyP l (tmE y) tb) (ho:4<=e.a.1/\e.a.1<=8):∃t,zA (XG G) TT 164 [e.enc,sl 5 vr V]=some (.int .i64 t)/\TyP l (tmD e.enc) t:=by
 suffices h:∃d,zA (XG G) TT 164 [e.enc,sl 5 vr V]=some d/\∃t,d=.int .i64 t/\TyP l (tmD e.enc) t by
  obtain⟨d,h1,t,rfl,h2⟩:=h;exact⟨t,h1,h2⟩
 have at0:atI e.args.items 0=some x:=by rw[h0];rfl
 have at1:atI e.args.items 1=some y:=by rw[h0];rfl
 have hlc:(e.args.items.length:Int)=2:=by rw[h0];rfl
 have n22:((2:Int) != 2)=false:=rfl
 have x1:=uI V x ta 1 hx
 have x2:=uI V x ta 2 hx
 have x3:=uI V x ta 3 hx
 have y1:=uI V y tb 1 hy
 have y2:=uI V y tb 2 hy
 have y3:=uI V y tb 3 hy
 have hfac:=λ(u:tb=0\/tb=1) (w:WT l (tmE y) tb)=>xAp (G:=G) l V e x y h0 tb u w
 simp only[vT] at hfac
 obtain⟨ex,hex,_⟩:=x.open
 obtain⟨ey,hey,_⟩:=y.open
 have htm:=xG e
 rw[h0,List.map_cons,List.map_cons,List.map_nil] at htm
 rw[htm]
 rw[hex] at x1 x2 x3
 rw[hey] at y1 y2 y3 hy
 simp only[vT] at x1 x2 x3 y1 y2 y3 hy hex hey
 refine zS T164 rfl (by simp only[go_sem,vG]) ?_
 unfold Tryz.f164 yHi
 simp only[Option.getD_some]
 simp +decide only[go_sem,ra,rb,rc,at0,at1,hex,hey,hlc,n22]
 rcases (by omega:e.a.1=4\/e.a.1=5\/e.a.1=6\/e.a.1=7\/e.a.1=8) with h|h|h|h|h
 all_goals
  first|have k1:(e.a.1==1)=true:=(by rw[h];rfl)|have k1:(e.a.1==1)=false:=(by rw[h];rfl)
  first|have k2:(e.a.1==2)=true:=(by rw[h];rfl)|have k2:(e.a.1==2)=false:=(by rw[h];rfl)
  first|have k3:(e.a.1==3)=true:=(by rw[h];rfl)|have k3:(e.a.1==3)=false:=(by rw[h];rfl)
  first|have k9:(e.a.1==9)=true:=(by rw[h];rfl)|have k9:(e.a.1==9)=false:=(by rw[h];rfl)
  first|have k17:(e.a.1==17)=true:=(by rw[h];rfl)|have k17:(e.a.1==17)=false:=(by rw[h];rfl)
  first|have k20:(e.a.1==20)=true:=(by rw[h];rfl)|have k20:(e.a.1==20)=false:=(by rw[h];rfl)
  first|have k4:(e.a.1==4)=true:=(by rw[h];rfl)|have k4:(e.a.1==4)=false:=(by rw[h];rfl)
  first|have k5:(e.a.1==5)=true:=(by rw[h];rfl)|have k5:(e.a.1==5)=false:=(by rw[h];rfl)
  first|have k6:(e.a.1==6)=true:=(by rw[h];rfl)|have k6:(e.a.1==6)=false:=(by rw[h];rfl)
  first|have k7:(e.a.1==7)=true:=(by rw[h];rfl)|have k7:(e.a.1==7)=false:=(by rw[h];rfl)
  first|have k8:(e.a.1==8)=true:=(by rw[h];rfl)|have k8:(e.a.1==8)=false:=(by rw[h];rfl)
  refine gw (an9 at0 at1 hex hey hlc n22 k1 k2 (an9 k3 k9 k17 k20 k4 k5 k6 k7 k8)) ?_
  cases c:(ta==0||ta==1)
  ·refine gw (an8 at0 at1 hex hey hlc n22 x1 c) ?_
   simp +decide only[go_sem,ra,rb,rc,at0,at1,hex,hey,hlc,n22]
   exact⟨_,rfl,.inl rfl⟩
  ·cases d:(tb==0||tb==1)
   ·refine gw (an9 at0 at1 hex hey hlc n22 x1 c (an y1 d)) ?_
    simp +decide only[go_sem,ra,rb,rc,at0,at1,hex,hey,hlc,n22]
    exact⟨_,rfl,.inl rfl⟩
   ·obtain⟨a1,a2⟩:=zIk hX (by decide) c
    obtain⟨b1,b2⟩:=zIk hY (by decide) d
    obtain⟨fb,hf,hF⟩:=hfac b1 b2
    cases fb
    ·refine gw (an9 at0 at1 hex hey hlc n22 x1 c (an3 y1 d hf)) ?_
     simp +decide only[go_sem,ra,rb,rc,at0,at1,hex,hey,hlc,n22]
     exact⟨_,rfl,.inl rfl⟩
    ·refine gw (an9 at0 at1 hex hey hlc n22 x1 c (an3 y1 d hf)) ?_
     simp +decide only[go_sem,ra,rb,rc,at0,at1,hex,hey,hlc,n22]
     exact⟨_,rfl,.inr (.arith _ _ _ _ _ ta tb ho a1 b1 a2 b2 λh7=>hF rfl h7)⟩
theorem yPl (l:List Int) (V:Sl Col) (e:ExR) (x y:Ex) (h0:e.args.items=[x,y]) (ta tb:Int) (hx:zA (XG G) TT 164 [zM x,sl 5 vr V]=some (.int .i64 ta)) (hy:zA (XG G) TT 164 [zM y,sl 5 vr V]=some (.int .i64 tb)) (hX:TyP l (tmE x) ta) (hY:TyP l (tmE y) tb) (ho:10<=e.a.1/\e.a.1<=15):∃t,zA (XG G) TT 164 [e.enc,sl 5 vr V]=some (.int .i64 t)/\TyP l (tmD e.enc) t:=by
 suffices h:∃d,zA (XG G) TT 164 [e.enc,sl 5 vr V]=some d/\∃t,d=.int .i64 t/\TyP l (tmD e.enc) t by
  obtain⟨d,h1,t,rfl,h2⟩:=h;exact⟨t,h1,h2⟩
 have at0:atI e.args.items 0=some x:=by rw[h0];rfl
 have at1:atI e.args.items 1=some y:=by rw[h0];rfl
 have hlc:(e.args.items.length:Int)=2:=by rw[h0];rfl
 have n22:((2:Int) != 2)=false:=rfl
 have x1:=uI V x ta 1 hx
 have x2:=uI V x ta 2 hx
 have x3:=uI V x ta 3 hx
 have y1:=uI V y tb 1 hy
 have y2:=uI V y tb 2 hy
 have y3:=uI V y tb 3 hy
 obtain⟨ex,hex,_⟩:=x.open
 obtain⟨ey,hey,_⟩:=y.open
 have htm:=xG e
 rw[h0,List.map_cons,List.map_cons,List.map_nil] at htm
 rw[htm]
 rw[hex] at x1 x2 x3
 rw[hey] at y1 y2 y3 hy
 simp only[vT] at x1 x2 x3 y1 y2 y3 hy hex hey
 refine zS T164 rfl (by simp only[go_sem,vG]) ?_
 unfold Tryz.f164 yHi
 simp only[Option.getD_some]
 simp +decide only[go_sem,ra,rb,rc,at0,at1,hex,hey,hlc,n22]
 rcases (by omega:e.a.1=10\/e.a.1=11\/e.a.1=12\/e.a.1=13\/e.a.1=14\/e.a.1=15) with h|h|h|h|h|h
 all_goals
  first|have k1:(e.a.1==1)=true:=(by rw[h];rfl)|have k1:(e.a.1==1)=false:=(by rw[h];rfl)
  first|have k2:(e.a.1==2)=true:=(by rw[h];rfl)|have k2:(e.a.1==2)=false:=(by rw[h];rfl)
  first|have k3:(e.a.1==3)=true:=(by rw[h];rfl)|have k3:(e.a.1==3)=false:=(by rw[h];rfl)
  first|have k9:(e.a.1==9)=true:=(by rw[h];rfl)|have k9:(e.a.1==9)=false:=(by rw[h];rfl)
  first|have k17:(e.a.1==17)=true:=(by rw[h];rfl)|have k17:(e.a.1==17)=false:=(by rw[h];rfl)
  first|have k20:(e.a.1==20)=true:=(by rw[h];rfl)|have k20:(e.a.1==20)=false:=(by rw[h];rfl)
  first|have k4:(e.a.1==4)=true:=(by rw[h];rfl)|have k4:(e.a.1==4)=false:=(by rw[h];rfl)
  first|have k5:(e.a.1==5)=true:=(by rw[h];rfl)|have k5:(e.a.1==5)=false:=(by rw[h];rfl)
  first|have k6:(e.a.1==6)=true:=(by rw[h];rfl)|have k6:(e.a.1==6)=false:=(by rw[h];rfl)
  first|have k7:(e.a.1==7)=true:=(by rw[h];rfl)|have k7:(e.a.1==7)=false:=(by rw[h];rfl)
  first|have k8:(e.a.1==8)=true:=(by rw[h];rfl)|have k8:(e.a.1==8)=false:=(by rw[h];rfl)
  first|have k10:(e.a.1==10)=true:=(by rw[h];rfl)|have k10:(e.a.1==10)=false:=(by rw[h];rfl)
  first|have k11:(e.a.1==11)=true:=(by rw[h];rfl)|have k11:(e.a.1==11)=false:=(by rw[h];rfl)
  first|have k12:(e.a.1==12)=true:=(by rw[h];rfl)|have k12:(e.a.1==12)=false:=(by rw[h];rfl)
  first|have k13:(e.a.1==13)=true:=(by rw[h];rfl)|have k13:(e.a.1==13)=false:=(by rw[h];rfl)
  first|have k14:(e.a.1==14)=true:=(by rw[h];rfl)|have k14:(e.a.1==14)=false:=(by rw[h];rfl)
  first|have k15:(e.a.1==15)=true:=(by rw[h];rfl)|have k15:(e.a.1==15)=false:=(by rw[h];rfl)
  refine gw (an9 at0 at1 hex hey hlc n22 k1 k2 (an9 k3 k9 k17 k20 k4 k5 k6 k7 (an7 k8 k10 k11 k12 k13 k14 k15))) ?_
  cases c:(ta==0||ta==1)
  ·cases c2:(ta==0||ta==2)
   ·refine gw (an9 at0 at1 hex hey hlc n22 x1 c (an x2 c2)) ?_
    simp +decide only[go_sem,ra,rb,rc,at0,at1,hex,hey,hlc,n22]
    exact⟨_,rfl,.inl rfl⟩
   ·cases d2:(tb==0||tb==2)
    ·refine gw (an9 at0 at1 hex hey hlc n22 x1 c (an4 x2 c2 y2 d2)) ?_
     simp +decide only[go_sem,ra,rb,rc,at0,at1,hex,hey,hlc,n22]
     exact⟨_,rfl,.inl rfl⟩
    ·obtain⟨a1,a2⟩:=zIk hX (by decide) c2
     obtain⟨b1,b2⟩:=zIk hY (by decide) d2
     refine gw (an9 at0 at1 hex hey hlc n22 x1 c (an4 x2 c2 y2 d2)) ?_
     simp +decide only[go_sem,ra,rb,rc,at0,at1,hex,hey,hlc,n22]
     exact⟨_,rfl,.inr (.rel _ _ _ _ _ ta tb ho a2 b2 ⟨2,.inr rfl,a1,b1⟩)⟩
  ·cases d:(tb==0||tb==1)
   ·cases c2:(ta==0||ta==2)
    ·refine gw (an9 at0 at1 hex hey hlc n22 x1 c (an4 y1 d x2 c2)) ?_
     simp +decide only[go_sem,ra,rb,rc,at0,at1,hex,hey,hlc,n22]
     exact⟨_,rfl,.inl rfl⟩
    ·cases d2:(tb==0||tb==2)
     ·refine gw (an9 at0 at1 hex hey hlc n22 x1 c (an6 y1 d x2 c2 y2 d2)) ?_
      simp +decide only[go_sem,ra,rb,rc,at0,at1,hex,hey,hlc,n22]
      exact⟨_,rfl,.inl rfl⟩
     ·obtain⟨a1,a2⟩:=zIk hX (by decide) c2
      obtain⟨b1,b2⟩:=zIk hY (by decide) d2
      refine gw (an9 at0 at1 hex hey hlc n22 x1 c (an6 y1 d x2 c2 y2 d2)) ?_
      simp +decide only[go_sem,ra,rb,rc,at0,at1,hex,hey,hlc,n22]
      exact⟨_,rfl,.inr (.rel _ _ _ _ _ ta tb ho a2 b2 ⟨2,.inr rfl,a1,b1⟩)⟩
   ·obtain⟨a1,a2⟩:=zIk hX (by decide) c
    obtain⟨b1,b2⟩:=zIk hY (by decide) d
    refine gw (an9 at0 at1 hex hey hlc n22 x1 c (an y1 d)) ?_
    simp +decide only[go_sem,ra,rb,rc,at0,at1,hex,hey,hlc,n22]
    exact⟨_,rfl,.inr (.rel _ _ _ _ _ ta tb ho a2 b2 ⟨1,.inl rfl,a1,b1⟩)⟩
theorem yPm (l:List Int) (V:Sl Col) (e:ExR) (x y:Ex) (h0:e.args.items=[x,y]) (ta tb:Int) (hx:zA (XG G) TT 164 [zM x,sl 5 vr V]=some (.int .i64 ta)) (hy:zA (XG G) TT 164 [zM y,sl 5 vr V]=some (.int .i64 tb)) (hX:TyP l (tmE x) ta) (hY:TyP l (tmE y) tb) (ho:e.a.1=16):∃t,zA (XG G) TT 164 [e.enc,sl 5 vr V]=some (.int .i64 t)/\TyP l (tmD e.enc) t:=by
 suffices h:∃d,zA (XG G) TT 164 [e.enc,sl 5 vr V]=some d/\∃t,d=.int .i64 t/\TyP l (tmD e.enc) t by
  obtain⟨d,h1,t,rfl,h2⟩:=h;exact⟨t,h1,h2⟩
 have at0:atI e.args.items 0=some x:=by rw[h0];rfl
 have at1:atI e.args.items 1=some y:=by rw[h0];rfl
 have hlc:(e.args.items.length:Int)=2:=by rw[h0];rfl
 have n22:((2:Int) != 2)=false:=rfl
 have x1:=uI V x ta 1 hx
 have x2:=uI V x ta 2 hx
 have x3:=uI V x ta 3 hx
 have y1:=uI V y tb 1 hy
 have y2:=uI V y tb 2 hy
 have y3:=uI V y tb 3 hy
 have hop:(tmE y).op=1->True:=λ_=>trivial
 obtain⟨ex,hex,_⟩:=x.open
 obtain⟨ey,hey,_⟩:=y.open
 have htm:=xG e
 rw[h0,List.map_cons,List.map_cons,List.map_nil] at htm
 rw[htm]
 rw[hex] at x1 x2 x3
 rw[hey] at y1 y2 y3 hy
 simp only[vT] at x1 x2 x3 y1 y2 y3 hy hex hey
 refine zS T164 rfl (by simp only[go_sem,vG]) ?_
 unfold Tryz.f164 yHi
 simp only[Option.getD_some]
 simp +decide only[go_sem,ra,rb,rc,at0,at1,hex,hey,hlc,n22]
 have hyo:(tmE y).op=ey.a.1:=by
  have:tmE y=tmD ey.enc:=by unfold tmE;rw[hey];rfl
  rw[this,xG];rfl
 have h:=ho
 first|have k1:(e.a.1==1)=true:=(by rw[h];rfl)|have k1:(e.a.1==1)=false:=(by rw[h];rfl)
 first|have k2:(e.a.1==2)=true:=(by rw[h];rfl)|have k2:(e.a.1==2)=false:=(by rw[h];rfl)
 first|have k3:(e.a.1==3)=true:=(by rw[h];rfl)|have k3:(e.a.1==3)=false:=(by rw[h];rfl)
 first|have k9:(e.a.1==9)=true:=(by rw[h];rfl)|have k9:(e.a.1==9)=false:=(by rw[h];rfl)
 first|have k17:(e.a.1==17)=true:=(by rw[h];rfl)|have k17:(e.a.1==17)=false:=(by rw[h];rfl)
 first|have k20:(e.a.1==20)=true:=(by rw[h];rfl)|have k20:(e.a.1==20)=false:=(by rw[h];rfl)
 first|have k4:(e.a.1==4)=true:=(by rw[h];rfl)|have k4:(e.a.1==4)=false:=(by rw[h];rfl)
 first|have k5:(e.a.1==5)=true:=(by rw[h];rfl)|have k5:(e.a.1==5)=false:=(by rw[h];rfl)
 first|have k6:(e.a.1==6)=true:=(by rw[h];rfl)|have k6:(e.a.1==6)=false:=(by rw[h];rfl)
 first|have k7:(e.a.1==7)=true:=(by rw[h];rfl)|have k7:(e.a.1==7)=false:=(by rw[h];rfl)
 first|have k8:(e.a.1==8)=true:=(by rw[h];rfl)|have k8:(e.a.1==8)=false:=(by rw[h];rfl)
 first|have k10:(e.a.1==10)=true:=(by rw[h];rfl)|have k10:(e.a.1==10)=false:=(by rw[h];rfl)
 first|have k11:(e.a.1==11)=true:=(by rw[h];rfl)|have k11:(e.a.1==11)=false:=(by rw[h];rfl)
 first|have k12:(e.a.1==12)=true:=(by rw[h];rfl)|have k12:(e.a.1==12)=false:=(by rw[h];rfl)
 first|have k13:(e.a.1==13)=true:=(by rw[h];rfl)|have k13:(e.a.1==13)=false:=(by rw[h];rfl)
 first|have k14:(e.a.1==14)=true:=(by rw[h];rfl)|have k14:(e.a.1==14)=false:=(by rw[h];rfl)
 first|have k15:(e.a.1==15)=true:=(by rw[h];rfl)|have k15:(e.a.1==15)=false:=(by rw[h];rfl)
 first|have k16:(e.a.1==16)=true:=(by rw[h];rfl)|have k16:(e.a.1==16)=false:=(by rw[h];rfl)
 refine gw (an9 at0 at1 hex hey hlc n22 k1 k2 (an9 k3 k9 k17 k20 k4 k5 k6 k7 (an8 k8 k10 k11 k12 k13 k14 k15 k16))) ?_
 cases c:(ta==0||ta==2)
 ·refine gw (an8 at0 at1 hex hey hlc n22 x2 c) ?_
  simp +decide only[go_sem,ra,rb,rc,at0,at1,hex,hey,hlc,n22]
  exact⟨_,rfl,.inl rfl⟩
 ·cases d:ey.a.1==1
  ·refine gw (an9 at0 at1 hex hey hlc n22 x2 c d) ?_
   simp +decide only[go_sem,ra,rb,rc,at0,at1,hex,hey,hlc,n22]
   exact⟨_,rfl,.inl rfl⟩
  ·cases d2:tb==2
   ·refine gw (an9 at0 at1 hex hey hlc n22 x2 c (an3 d hy d2)) ?_
    simp +decide only[go_sem,ra,rb,rc,at0,at1,hex,hey,hlc,n22]
    exact⟨_,rfl,.inl rfl⟩
   ·obtain⟨a1,a2⟩:=zIk hX (by decide) c
    have b1:tb=2:=by simpa using d2
    have b2:WT l (tmE y) 2:=by
     rw[b1] at hY
     exact hY.resolve_left (by decide)
    refine gw (an9 at0 at1 hex hey hlc n22 x2 c (an3 d hy d2)) ?_
    simp +decide only[go_sem,ra,rb,rc,at0,at1,hex,hey,hlc,n22]
    rw[h]
    exact⟨_,rfl,.inr (.like _ _ _ _ ta a1 a2 b2 (by rw[hyo];simpa using d))⟩
theorem yPn (l:List Int) (V:Sl Col) (e:ExR) (x y:Ex) (h0:e.args.items=[x,y]) (ta tb:Int) (hx:zA (XG G) TT 164 [zM x,sl 5 vr V]=some (.int .i64 ta)) (hy:zA (XG G) TT 164 [zM y,sl 5 vr V]=some (.int .i64 tb)) (hX:TyP l (tmE x) ta) (hY:TyP l (tmE y) tb) (ho:e.a.1=18\/e.a.1=19):∃t,zA (XG G) TT 164 [e.enc,sl 5 vr V]=some (.int .i64 t)/\TyP l (tmD e.enc) t:=by
 suffices h:∃d,zA (XG G) TT 164 [e.enc,sl 5 vr V]=some d/\∃t,d=.int .i64 t/\TyP l (tmD e.enc) t by
  obtain⟨d,h1,t,rfl,h2⟩:=h;exact⟨t,h1,h2⟩
 have at0:atI e.args.items 0=some x:=by rw[h0];rfl
 have at1:atI e.args.items 1=some y:=by rw[h0];rfl
 have hlc:(e.args.items.length:Int)=2:=by rw[h0];rfl
 have n22:((2:Int) != 2)=false:=rfl
 have x1:=uI V x ta 1 hx
 have x2:=uI V x ta 2 hx
 have x3:=uI V x ta 3 hx
 have y1:=uI V y tb 1 hy
 have y2:=uI V y tb 2 hy
 have y3:=uI V y tb 3 hy
 obtain⟨ex,hex,_⟩:=x.open
 obtain⟨ey,hey,_⟩:=y.open
 have htm:=xG e
 rw[h0,List.map_cons,List.map_cons,List.map_nil] at htm
 rw[htm]
 rw[hex] at x1 x2 x3
 rw[hey] at y1 y2 y3 hy
 simp only[vT] at x1 x2 x3 y1 y2 y3 hy hex hey
 refine zS T164 rfl (by simp only[go_sem,vG]) ?_
 unfold Tryz.f164 yHi
 simp only[Option.getD_some]
 simp +decide only[go_sem,ra,rb,rc,at0,at1,hex,hey,hlc,n22]
 rcases ho with h|h
 all_goals
  first|have k1:(e.a.1==1)=true:=(by rw[h];rfl)|have k1:(e.a.1==1)=false:=(by rw[h];rfl)
  first|have k2:(e.a.1==2)=true:=(by rw[h];rfl)|have k2:(e.a.1==2)=false:=(by rw[h];rfl)
  first|have k3:(e.a.1==3)=true:=(by rw[h];rfl)|have k3:(e.a.1==3)=false:=(by rw[h];rfl)
  first|have k9:(e.a.1==9)=true:=(by rw[h];rfl)|have k9:(e.a.1==9)=false:=(by rw[h];rfl)
  first|have k17:(e.a.1==17)=true:=(by rw[h];rfl)|have k17:(e.a.1==17)=false:=(by rw[h];rfl)
  first|have k20:(e.a.1==20)=true:=(by rw[h];rfl)|have k20:(e.a.1==20)=false:=(by rw[h];rfl)
  first|have k4:(e.a.1==4)=true:=(by rw[h];rfl)|have k4:(e.a.1==4)=false:=(by rw[h];rfl)
  first|have k5:(e.a.1==5)=true:=(by rw[h];rfl)|have k5:(e.a.1==5)=false:=(by rw[h];rfl)
  first|have k6:(e.a.1==6)=true:=(by rw[h];rfl)|have k6:(e.a.1==6)=false:=(by rw[h];rfl)
  first|have k7:(e.a.1==7)=true:=(by rw[h];rfl)|have k7:(e.a.1==7)=false:=(by rw[h];rfl)
  first|have k8:(e.a.1==8)=true:=(by rw[h];rfl)|have k8:(e.a.1==8)=false:=(by rw[h];rfl)
  first|have k10:(e.a.1==10)=true:=(by rw[h];rfl)|have k10:(e.a.1==10)=false:=(by rw[h];rfl)
  first|have k11:(e.a.1==11)=true:=(by rw[h];rfl)|have k11:(e.a.1==11)=false:=(by rw[h];rfl)
  first|have k12:(e.a.1==12)=true:=(by rw[h];rfl)|have k12:(e.a.1==12)=false:=(by rw[h];rfl)
  first|have k13:(e.a.1==13)=true:=(by rw[h];rfl)|have k13:(e.a.1==13)=false:=(by rw[h];rfl)
  first|have k14:(e.a.1==14)=true:=(by rw[h];rfl)|have k14:(e.a.1==14)=false:=(by rw[h];rfl)
  first|have k15:(e.a.1==15)=true:=(by rw[h];rfl)|have k15:(e.a.1==15)=false:=(by rw[h];rfl)
  first|have k16:(e.a.1==16)=true:=(by rw[h];rfl)|have k16:(e.a.1==16)=false:=(by rw[h];rfl)
  first|have k18:(e.a.1==18)=true:=(by rw[h];rfl)|have k18:(e.a.1==18)=false:=(by rw[h];rfl)
  first|have k19:(e.a.1==19)=true:=(by rw[h];rfl)|have k19:(e.a.1==19)=false:=(by rw[h];rfl)
  have ho:e.a.1=18\/e.a.1=19:=by omega
  refine gw (an9 at0 at1 hex hey hlc n22 k1 k2 (an9 k3 k9 k17 k20 k4 k5 k6 k7 (an9 k8 k10 k11 k12 k13 k14 k15 k16 (an k18 k19)))) ?_
  cases c:(ta==0||ta==3)
  ·refine gw (an8 at0 at1 hex hey hlc n22 x3 c) ?_
   simp +decide only[go_sem,ra,rb,rc,at0,at1,hex,hey,hlc,n22]
   exact⟨_,rfl,.inl rfl⟩
  ·cases d:(tb==0||tb==3)
   ·refine gw (an9 at0 at1 hex hey hlc n22 x3 c (an y3 d)) ?_
    simp +decide only[go_sem,ra,rb,rc,at0,at1,hex,hey,hlc,n22]
    exact⟨_,rfl,.inl rfl⟩
   ·obtain⟨a1,a2⟩:=zIk hX (by decide) c
    obtain⟨b1,b2⟩:=zIk hY (by decide) d
    refine gw (an9 at0 at1 hex hey hlc n22 x3 c (an y3 d)) ?_
    simp +decide only[go_sem,ra,rb,rc,at0,at1,hex,hey,hlc,n22]
    exact⟨_,rfl,.inr (.junct _ _ _ _ _ ta tb ho a1 b1 a2 b2)⟩
end Go.Eng
