/- A part of the proof: see the last text. -/
import Derived.Test.YtggiaoaballdgaaGreatDoorJ37
set_option linter.unusedSimpArgs false
set_option linter.unusedVariables false
namespace Go.Eng
open Go Go.Proofs
open Nat renaming reduceAdd → ra, reduceMul → rb, reduceSub → rc
set_option maxRecDepth 20000
set_option maxHeartbeats 32000000
attribute [local irreducible] wpI xU
variable {G:Nat->Option (List D)}
def TyP (l:List Int) (e:Tm) (t:Int):Prop:=t = -1\/WT l e t
theorem yZv {l:List Int} {ix:Int} {v:Val} {t:Int} (h:xHw v t):TyP l (.nd 1 ix v []) t:=by
 rcases h with h|⟨h,e⟩|⟨h,e⟩|⟨h,e,h1,h2⟩
 ·exact .inl h
 ·subst h;rw[e];exact .inr (.nul ix)
 ·subst h;rw[e];exact .inr (.int ix v.n)
 ·subst h;rw[e];exact .inr (.txt ix v.s h1 h2)
theorem uI (V:Sl Col) (x:Ex) (t τ:Int) (h:zA (XG G) TT 164 [zM x,sl 5 vr V]=some (.int .i64 t)):zA (XG G) TT 107 [zM x,sl 5 vr V,.int .i64 τ]=some (.bool (t==0||t==τ)):=by
 obtain⟨e,he,_⟩:=x.open
 rw[he] at h ⊢
 simp only[vT] at h
 refine zD T107 rfl (by simp only[go_sem]) ?_
 unfold Tryz.f107 xLe
 simp only[Option.getD_some]
 simp +decide only[go_sem,ra]
 cases c:(t==0)
 ·refine gw (an h c) ?_
  simp +decide only[go_sem]
  simp only[Bool.false_or]
 ·refine gw (an h c) ?_
  simp +decide only[go_sem]
  simp only[Bool.true_or]
theorem yIq (l:List Int) (V:Sl Col) (e:ExR) (ih:∀x∈e.args.items,∃t,zA (XG G) TT 164 [zM x,sl 5 vr V]=some (.int .i64 t)/\TyP l (tmE x) t):∃t,zA (XG G) TT 243 [e.enc,sl 5 vr V]=some (.int .i64 t)/\TyP l (tmD e.enc) t:=by
 suffices h:∃d,zA (XG G) TT 243 [e.enc,sl 5 vr V]=some d/\∃t,d=.int .i64 t/\TyP l (tmD e.enc) t by
  obtain⟨d,h1,t,rfl,h2⟩:=h;exact⟨t,h1,h2⟩
 by_cases hl:e.args.items.length=1
 ·obtain⟨x,h0⟩:=List.length_eq_one_iff.1 hl
  obtain⟨t,ht,hT⟩:=ih x (by simp[h0])
  have at0:atI e.args.items 0=some x:=by rw[h0];rfl
  have i1:=uI V x t 1 ht
  have i2:=uI V x t 2 ht
  have i3:=uI V x t 3 ht
  obtain⟨ex,hex,_⟩:=x.open
  rw[hex] at i1 i2 i3
  simp only[vT] at i1 i2 i3 hex
  have hlc:((e.args.items.length:Int) != 1)=false:=by rw[hl];rfl
  rw[xG,h0,List.map_cons,List.map_nil]
  have hwt:∀τ,(t==0||t==τ)=true->0<=τ->(t=0\/t=τ)/\WT l (tmE x) t:=λτ h hτ=>by
   simp only[Bool.or_eq_true,beq_iff_eq] at h
   exact⟨h,hT.resolve_left (by omega)⟩
  refine zS T243 rfl (by simp only[go_sem]) ?_
  unfold Tryz.f243 xEq
  simp only[Option.getD_some]
  simp +decide only[go_sem,ra]
  rcases (by omega:e.a.1=3\/e.a.1=9\/e.a.1=17\/e.a.1=20\/(e.a.1≠3/\e.a.1≠9/\e.a.1≠17/\e.a.1≠20)) with h|h|h|h|⟨h1,h2,h3,h4⟩
  ·have e1:(e.a.1==3)=true:=by simp[h]
   have e2:(e.a.1==9)=false:=by simp[h]
   have e3:(e.a.1==17)=false:=by simp[h]
   have e4:(e.a.1==20)=false:=by simp[h]
   cases c:(t==0||t==1)
   ·refine gw (an9 hlc at0 hex i1 i2 i3 e1 e2 (an3 e3 e4 c)) ?_
    simp +decide only[go_sem]
    exact⟨_,rfl,.inl rfl⟩
   ·refine gw (an9 hlc at0 hex i1 i2 i3 e1 e2 (an3 e3 e4 c)) ?_
    simp +decide only[go_sem]
    obtain⟨a1,a2⟩:=hwt 1 c (by decide)
    rw[h]
    exact⟨_,rfl,.inr (.neg _ _ _ t a1 a2)⟩
  ·have e1:(e.a.1==3)=false:=by simp[h]
   have e2:(e.a.1==9)=true:=by simp[h]
   have e3:(e.a.1==17)=false:=by simp[h]
   have e4:(e.a.1==20)=false:=by simp[h]
   cases c:(t==0||t==2)
   ·refine gw (an9 hlc at0 hex i1 i2 i3 e1 e2 (an3 e3 e4 c)) ?_
    simp +decide only[go_sem]
    exact⟨_,rfl,.inl rfl⟩
   ·refine gw (an9 hlc at0 hex i1 i2 i3 e1 e2 (an3 e3 e4 c)) ?_
    simp +decide only[go_sem]
    obtain⟨a1,a2⟩:=hwt 2 c (by decide)
    rw[h]
    exact⟨_,rfl,.inr (.length _ _ _ t a1 a2)⟩
  ·have e1:(e.a.1==3)=false:=by simp[h]
   have e2:(e.a.1==9)=false:=by simp[h]
   have e3:(e.a.1==17)=true:=by simp[h]
   have e4:(e.a.1==20)=false:=by simp[h]
   cases c:(t==0||t==1)
   ·cases c2:(t==0||t==2)
    ·refine gw (an9 hlc at0 hex i1 i2 i3 e1 e2 (an4 e3 e4 c c2)) ?_
     simp +decide only[go_sem]
     exact⟨_,rfl,.inl rfl⟩
    ·refine gw (an9 hlc at0 hex i1 i2 i3 e1 e2 (an4 e3 e4 c c2)) ?_
     simp +decide only[go_sem]
     obtain⟨a1,a2⟩:=hwt 2 c2 (by decide)
     rw[h]
     exact⟨_,rfl,.inr (.isnull _ _ _ t (by omega) a2)⟩
   ·refine gw (an9 hlc at0 hex i1 i2 i3 e1 e2 (an3 e3 e4 c)) ?_
    simp +decide only[go_sem]
    obtain⟨a1,a2⟩:=hwt 1 c (by decide)
    rw[h]
    exact⟨_,rfl,.inr (.isnull _ _ _ t (by omega) a2)⟩
  ·have e1:(e.a.1==3)=false:=by simp[h]
   have e2:(e.a.1==9)=false:=by simp[h]
   have e3:(e.a.1==17)=false:=by simp[h]
   have e4:(e.a.1==20)=true:=by simp[h]
   cases c:(t==0||t==3)
   ·refine gw (an9 hlc at0 hex i1 i2 i3 e1 e2 (an3 e3 e4 c)) ?_
    simp +decide only[go_sem]
    exact⟨_,rfl,.inl rfl⟩
   ·refine gw (an9 hlc at0 hex i1 i2 i3 e1 e2 (an3 e3 e4 c)) ?_
    simp +decide only[go_sem]
    obtain⟨a1,a2⟩:=hwt 3 c (by decide)
    rw[h]
    exact⟨_,rfl,.inr (.not _ _ _ t a1 a2)⟩
  ·have e1:(e.a.1==3)=false:=by simp[h1]
   have e2:(e.a.1==9)=false:=by simp[h2]
   have e3:(e.a.1==17)=false:=by simp[h3]
   have e4:(e.a.1==20)=false:=by simp[h4]
   refine gw (an9 hlc at0 hex i1 i2 i3 e1 e2 (an e3 e4)) ?_
   simp +decide only[go_sem]
   exact⟨_,rfl,.inl rfl⟩
 ·have hlc:((e.args.items.length:Int) != 1)=true:=by simp;omega
  refine zS T243 rfl (by simp only[go_sem]) ?_
  unfold Tryz.f243 xEq
  simp only[Option.getD_some]
  simp +decide only[go_sem,ra]
  refine gw hlc ?_
  simp +decide only[go_sem]
  exact⟨_,rfl,.inl rfl⟩
theorem xAp (l:List Int) (V:Sl Col) (e:ExR) (x y:Ex) (h0:e.args.items=[x,y]) (u:Int) (hu:u=0\/u=1) (hw:WT l (tmE y) u):∃b,zA (XG G) TT 244 [e.enc,sl 5 vr V]=some (.bool b)/\(b=true->7<=e.a.1->∃n:Int,1<=n/\n<=1000/\∀r,evV r (tmE y)=⟨1,n,[]⟩):=by
 suffices h:∃d,zA (XG G) TT 244 [e.enc,sl 5 vr V]=some d/\∃b,d=.bool b/\(b=true->7<=e.a.1->∃n:Int,1<=n/\n<=1000/\∀r,evV r (tmE y)=⟨1,n,[]⟩) by
  obtain⟨d,h1,t,rfl,h2⟩:=h;exact⟨t,h1,h2⟩
 have at0:atI e.args.items 0=some x:=by rw[h0];rfl
 have at1:atI e.args.items 1=some y:=by rw[h0];rfl
 obtain⟨cx,hcx,_⟩:=yDy (G:=G) x
 obtain⟨cy,hcy,hvy⟩:=yDy (G:=G) y
 obtain⟨n,hn⟩:=zYl (G:=G) l V y u hu hw
 have hyv:=λ(hv:yHg (λ_=>False) (tmE y))=>yMu (G:=G) [] ⟨none,by simp⟩ (Nat.zero_le _) y u (by omega) (hw.const hv)
 obtain⟨ex,hex,_⟩:=x.open
 obtain⟨ey,hey,_⟩:=y.open
 rw[hex] at hcx
 rw[hey] at hcy hn
 simp only[vT] at hcx hcy hn hex hey
 refine zS T244 rfl (by simp only[go_sem]) ?_
 unfold Tryz.f244 xIp
 simp only[Option.getD_some]
 simp +decide only[go_sem,ra]
 cases c6:(e.a.1==6)
 ·cases c7:(decide (e.a.1<7))
  ·cases cy with
   |true=>
    refine gw (an9 at0 at1 hex hey hcx hcy hn c6 c7) ?_
    simp +decide only[go_sem]
    exact⟨_,rfl,λh=>by cases h⟩
   | false=>
    have hv:=hvy rfl
    cases cb:(decide ((1152921504606846976:Int)<n))
    ·have hval:zA (XG G) TT 120 [zM y,.nil]=some (vD (evV [] (tmE y))):=hyv hv
     rw[hey] at hval
     have hsame:∀r,evV r (tmE y)=evV [] (tmE y):=λr=>zJb (λi h=>h.elim) _ hv
     have hok:=(hw.const hv).val (by omega) (r:=[]) ⟨rfl,λi v t h=>by simp at h⟩
     generalize evV [] (tmE y)=w at *
     simp only[zBg] at hval
     cases k1:(w.k==1)
     ·refine gw (an9 at0 at1 hex hey hcx hcy hn c6 (an4 c7 cb k1 hval)) ?_
      simp +decide only[go_sem]
      exact⟨_,rfl,λh=>by cases h⟩
     ·cases k2:(decide (1<=w.n))
      ·refine gw (an9 at0 at1 hex hey hcx hcy hn c6 (an5 c7 cb k1 k2 hval)) ?_
       simp +decide only[go_sem]
       exact⟨_,rfl,λh=>by cases h⟩
      ·refine gw (an9 at0 at1 hex hey hcx hcy hn c6 (an5 c7 cb k1 k2 hval)) ?_
       simp +decide only[go_sem]
       refine⟨_,rfl,λh _=>⟨w.n,by simpa using k2,by simpa using h,λr=>?_⟩⟩
       rw[hsame]
       have hk:w.k=1:=by simpa using k1
       have hok1:OKV 1 w:=OKV.of hu hok
       cases hok1 with
       |nul=>simp[nul] at hk
       |int n=>rfl
    ·refine gw (an9 at0 at1 hex hey hcx hcy hn c6 (an c7 cb)) ?_
     simp +decide only[go_sem]
     exact⟨_,rfl,λh=>by cases h⟩
  ·have:¬7<=e.a.1:=by simp at c7;omega
   refine gw (an9 at0 at1 hex hey hcx hcy hn c6 c7) ?_
   simp +decide only[go_sem]
   exact⟨_,rfl,λ_ h=>absurd h this⟩
 ·have:¬7<=e.a.1:=by simp at c6;omega
  cases cx
  ·refine gw (an8 at0 at1 hex hey hcx hcy hn c6) ?_
   simp +decide only[go_sem]
   exact⟨_,rfl,λ_ h=>absurd h this⟩
  ·refine gw (an8 at0 at1 hex hey hcx hcy hn c6) ?_
   simp +decide only[go_sem]
   exact⟨_,rfl,λ_ h=>absurd h this⟩
end Go.Eng
