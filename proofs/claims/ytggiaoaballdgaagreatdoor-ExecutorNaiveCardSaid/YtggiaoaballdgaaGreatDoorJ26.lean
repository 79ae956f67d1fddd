/- A part of the proof: see the last text. -/
import Derived.Test.YtggiaoaballdgaaGreatDoorR4Ev2
import Derived.Test.YtggiaoaballdgaaGreatDoorJ23
import Derived.Test.YtggiaoaballdgaaGreatDoorR4Lik2
import Derived.Test.YtggiaoaballdgaaGreatDoorJ12
set_option linter.unusedSimpArgs false
set_option linter.unusedVariables false
namespace Go.Eng
open Go Go.Proofs
open Nat renaming reduceAdd → ra, reduceMul → rb, reduceSub → rc
set_option maxRecDepth 20000
set_option maxHeartbeats 32000000
attribute [local irreducible] wpI xU
variable {G:Nat->Option (List D)}
theorem yDk {l:List Int} {r:List Val} (h:zIj l r):l.length<=r.length:=by rw[h.len];exact Nat.le_refl _
theorem zYf (l:List Int) (r:Sl Val) (hr:zIj l r.items):∀(N:Nat) (x:Ex),SizeOf.sizeOf (zM x)<N->∀τ,(τ=0\/τ=3)->WT l (tmE x) τ->zA (XG G) TT 71 [zM x,sl 3 vD r]=some (.int .i64 (evC r.items (tmE x)))
 |0,x,h,τ,hτ,hw=>absurd h (Nat.not_lt_zero _)
 | N+1,x,h,τ,hτ,hw=>by
  obtain⟨e,he,hs⟩:=x.open
  unfold tmE at hw ⊢
  rw[he] at hw ⊢
  have ih:∀y∈e.args.items,∀t,(t=0\/t=3)->WT l (tmE y) t->zA (XG G) TT 71 [zM y,sl 3 vD r]=some (.int .i64 (evC r.items (tmE y))):=λy hy t ht hw=>zYf l r hr N y (by have:=hs y hy;omega) t ht hw
  have hv:∀y t,t≠3->WT l (tmE y) t->zA (XG G) TT 120 [zM y,sl 3 vD r]=some (vD (evV r.items (tmE y))):=λy t ht hw=>yMu l r (yDk hr) y t ht hw
  have hlen:e.args.items.length<=2:=by rw[xG] at hw;simpa using hw.len
  match h0:e.args.items,hlen with
  |[],_=>
   rw[xG,h0,List.map_nil] at hw ⊢
   rw[yYd]
   exact yLh r e (by rcases hw.inv0 with h|h<;>omega)
  |[a],_=>
   rw[xG,h0,List.map_cons,List.map_nil] at hw ⊢
   rw[yYc]
   obtain⟨t,ht,hc⟩:=hw.inv1
   exact yLg r e a h0 (by omega) _ _ (λh=>hv a t (by omega) ht) (λh=>ih a (by simp[h0]) t (by omega) ht) (zJz _ _)
  | [a,b],_=>
   rw[xG,h0,List.map_cons,List.map_cons,List.map_nil] at hw ⊢
   rw[yYb]
   obtain⟨t,u,ht,hu,hc⟩:=hw.inv2
   have hA:((e.a.1=18\/e.a.1=19)/\(t=0\/t=3)/\(u=0\/u=3))\/((10<=e.a.1/\e.a.1<=16)/\t≠3/\u≠3/\∃z,(t=0\/t=z)/\(u=0\/u=z)):=by
    rcases hc with h|⟨h1,h2,_,z,hz,hz1,hz2⟩|h|h
    ·have h1:=h.2.2.1;clear h;omega
    ·exact .inr ⟨⟨h1,by omega⟩,by omega,by omega,z,hz1,hz2⟩
    ·exact .inr ⟨by omega,by omega,by omega,2,h.2.2.1,.inr h.2.2.2.1⟩
    ·exact .inl ⟨h.1,h.2.2⟩
   clear hc
   rcases hA with⟨hj,hcc⟩|⟨ho,h1,h2,z,hz1,hz2⟩
   ·rw[yLf r e a b h0 hj _ _ (ih a (by simp[h0]) t hcc.1 ht) (ih b (by simp[h0]) u hcc.2 hu)]
    by_cases h18:e.a.1=18
    ·rw[if_pos h18,if_pos h18]
    ·rw[if_neg h18,if_neg h18,if_pos (hj.resolve_left h18)]
   ·rw[if_neg (λh=>by rw[h] at ho;omega),if_neg (λh=>by rw[h] at ho;omega)]
    exact yLe r e a b h0 ho _ _ z (OKV.of hz1 (ht.val h1 hr)) (OKV.of hz2 (hu.val h2 hr)) (hv a t h1 ht) (hv b u h2 hu)
theorem xAv (l:List Int) (r:Sl Val) (hr:zIj l r.items) (x:Ex) (τ:Int) (hτ:τ=0\/τ=3) (hw:WT l (tmE x) τ):zA (XG G) TT 71 [zM x,sl 3 vD r]=some (.int .i64 (evC r.items (tmE x))):=zYf l r hr _ x (Nat.lt_succ_self _) τ hτ hw
def mtB (e:Tm) (r:List Val):Bool:=e.op==0||evC r e==1
theorem yQv (l:List Int) (r:Sl Val) (hr:zIj l r.items) (x:Ex) (hw:(tmE x).op=0\/∃τ,(τ=0\/τ=3)/\WT l (tmE x) τ):zA (XG G) TT 36 [zM x,sl 3 vD r]=some (.bool (mtB (tmE x) r.items)):=by
 obtain⟨e,he,_⟩:=x.open
 have hop:(tmE x).op=e.a.1:=by unfold tmE;rw[he,xG];rfl
 have hc:e.a.1≠0->zA (XG G) TT 71 [e.enc,sl 3 vD r]=some (.int .i64 (evC r.items (tmE x))):=λh=>by
  rcases hw with hw|⟨τ,hτ,hw⟩
  ·omega
  ·rw[<-he];exact xAv l r hr x τ hτ hw
 unfold mtB
 rw[hop,he]
 refine zD T36 rfl (by simp only[go_sem]) ?_
 unfold Tryz.f36 F36
 simp only[Option.getD_some]
 simp only[vT] at hc
 simp +decide only[go_sem,ra]
 cases c0:(e.a.1==0)
 ·have hc:=hc (by simpa using c0)
  refine gw (an c0 hc) ?_
  simp +decide only[go_sem]
  rw[Bool.false_or]
 ·refine gw c0 ?_
  simp +decide only[go_sem]
  rw[Bool.true_or]
end Go.Eng
namespace Go.Eng
open Go Go.Proofs
open Nat renaming reduceAdd → ra, reduceMul → rb, reduceSub → rc
set_option maxRecDepth 20000
set_option maxHeartbeats 32000000
attribute [local irreducible] wpI xU
theorem yLd (r:Sl Val) (e:ExR) (h1:e.a.1=1):zA (XG GK) TT 77 [e.enc,sl 3 vD r]=some (.int .i64 2):=by
 refine zD T77 rfl (by simp only[go_sem]) ?_
 unfold Tryz.f77 F77
 simp only[Option.getD_some]
 have e1:(e.a.1==1)=true:=by simp[h1]
 simp +decide only[go_sem,ra]
 refine gw e1 ?_
 simp +decide only[go_sem]
theorem yLc (r:Sl Val) (e:ExR) (x:Ex) (h0:e.args.items=[x]) (h:e.a.1=17\/e.a.1=20) (w:Val) (t:Int)
  (hv:e.a.1=17->zA (XG GK) TT 128 [zM x,sl 3 vD r]=some (vD w)) (hc:e.a.1=20->zA (XG GK) TT 77 [zM x,sl 3 vD r]=some (.int .i64 t)) (ht:Tri t) :
  zA (XG GK) TT 77 [e.enc,sl 3 vD r]=some (.int .i64 (if e.a.1=17 then ofB (w.k==0) else yHb t)):=by
 have at0:atI e.args.items 0=some x:=by rw[h0];rfl
 have e1:(e.a.1==1)=false:=by simp;omega
 have e18:(e.a.1==18)=false:=by simp;omega
 have e19:(e.a.1==19)=false:=by simp;omega
 refine zD T77 rfl (by simp only[go_sem]) ?_
 unfold Tryz.f77 F77
 simp only[Option.getD_some]
 simp +decide only[go_sem,ra]
 rcases h with h|h
 ·have e17:(e.a.1==17)=true:=by simp[h]
  have e20:(e.a.1==20)=false:=by simp[h]
  have hv:=hv h
  simp only[zBg] at hv
  have ho:=yXq (G:=GK) (w.k==0)
  rw[if_pos h]
  refine gw (an8 e1 e18 e19 at0 e17 e20 hv ho) ?_
  simp +decide only[go_sem]
 ·have e20:(e.a.1==20)=true:=by simp[h]
  have hc:=hc h
  have hn:=yZo t ht
  rw[if_neg (by omega)]
  refine gw (an7 e1 e18 e19 at0 e20 hc hn) ?_
  simp +decide only[go_sem]
theorem yLb (r:Sl Val) (e:ExR) (x y:Ex) (h0:e.args.items=[x,y]) (h:e.a.1=18\/e.a.1=19) (t u:Int) (ht:Tri t) (hu:Tri u)
  (hc:zA (XG GK) TT 77 [zM x,sl 3 vD r]=some (.int .i64 t)) (hd:zA (XG GK) TT 77 [zM y,sl 3 vD r]=some (.int .i64 u)) :
  zA (XG GK) TT 77 [e.enc,sl 3 vD r]=some (.int .i64 (if e.a.1=18 then zYw t u else or3 t u)):=by
 have at0:atI e.args.items 0=some x:=by rw[h0];rfl
 have at1:atI e.args.items 1=some y:=by rw[h0];rfl
 have e1:(e.a.1==1)=false:=by simp;omega
 refine zD T77 rfl (by simp only[go_sem]) ?_
 unfold Tryz.f77 F77
 simp only[Option.getD_some]
 simp +decide only[go_sem,ra]
 rcases h with h|h
 ·have e18:(e.a.1==18)=true:=by simp[h]
  have ha:=xBe t u ht hu
  rw[if_pos h]
  refine gw (an7 e1 at0 at1 hc hd e18 ha) ?_
  simp +decide only[go_sem]
 ·have e18:(e.a.1==18)=false:=by simp[h]
  have e19:(e.a.1==19)=true:=by simp[h]
  have ha:=xOn t u ht hu
  rw[if_neg (by omega)]
  refine gw (an8 e1 at0 at1 hc hd e18 e19 ha) ?_
  simp +decide only[go_sem]
theorem yLa (r:Sl Val) (e:ExR) (x y:Ex) (h0:e.args.items=[x,y]) (h:10<=e.a.1/\e.a.1<=16) (v w:Val) (z:Int) (hz:OKV z v) (hz':OKV z w)
  (hc:zA (XG GK) TT 128 [zM x,sl 3 vD r]=some (vD v)) (hd:zA (XG GK) TT 128 [zM y,sl 3 vD r]=some (vD w)) :
  zA (XG GK) TT 77 [e.enc,sl 3 vD r]=some (.int .i64 (yMk e.a.1 v w)):=by
 have at0:atI e.args.items 0=some x:=by rw[h0];rfl
 have at1:atI e.args.items 1=some y:=by rw[h0];rfl
 have e1:(e.a.1==1)=false:=by simp;omega
 have e17:(e.a.1==17)=false:=by simp;omega
 have e18:(e.a.1==18)=false:=by simp;omega
 have e19:(e.a.1==19)=false:=by simp;omega
 have e20:(e.a.1==20)=false:=by simp;omega
 refine zD T77 rfl (by simp only[go_sem]) ?_
 unfold Tryz.f77 F77
 simp only[Option.getD_some]
 simp only[zBg] at hc hd
 simp +decide only[go_sem,ra]
 unfold yMk
 cases k0:(v.k==0)
 ·cases k1:(w.k==0)
  ·have k0':v.k≠0:=by simpa using k0
   have k1':w.k≠0:=by simpa using k1
   have hf:=λb=>yXq (G:=GK) b
   rw[if_neg (by omega)]
   by_cases h16:e.a.1=16
   ·have f16:(e.a.1==16)=true:=by simp[h16]
    have hl:v.s.length<=1000/\w.s.length<=1000:=by
     constructor
     ·cases hz<;>simp[nul]<;>omega
     ·cases hz'<;>simp[nul]<;>omega
    have hk:=yQx (G:=GK) v.s w.s hl.1 hl.2
    rw[if_pos h16]
    refine gw (an9 e1 e17 e18 e19 e20 at0 at1 hc (an6 hd k0 k1 hf f16 hk)) ?_
    simp +decide only[go_sem]
   ·have f16:(e.a.1==16)=false:=by simp[h16]
    have o1:=yPi (G:=GK) v.n w.n
    have o2:=yNu (G:=GK) v.s w.s
    have o3:=or132' (G:=GK) (uG v.n w.n) (zCg v.s w.s) (zPn ..) (zYh ..)
    have o4:=yKh (G:=GK) e.a.1 (if uG v.n w.n=0 then zCg v.s w.s else uG v.n w.n) (by omega)
    rw[if_neg h16]
    unfold yHa
    refine gw (an9 e1 e17 e18 e19 e20 at0 at1 hc (an9 hd k0 k1 hf f16 o1 o2 o3 o4)) ?_
    simp +decide only[go_sem]
  ·refine gw (an9 e1 e17 e18 e19 e20 at0 at1 hc (an3 hd k0 k1)) ?_
   simp +decide only[go_sem]
   rw[if_pos (.inr (by simpa using k1))]
 ·refine gw (an9 e1 e17 e18 e19 e20 at0 at1 hc (an hd k0)) ?_
  simp +decide only[go_sem]
  rw[if_pos (.inl (by simpa using k0))]
theorem zYe (l:List Int) (r:Sl Val) (hr:zIj l r.items):∀(N:Nat) (x:Ex),SizeOf.sizeOf (zM x)<N->∀τ,(τ=0\/τ=3)->WT l (tmE x) τ->zA (XG GK) TT 77 [zM x,sl 3 vD r]=some (.int .i64 (evC r.items (tmE x)))
 |0,x,h,τ,hτ,hw=>absurd h (Nat.not_lt_zero _)
 | N+1,x,h,τ,hτ,hw=>by
  obtain⟨e,he,hs⟩:=x.open
  unfold tmE at hw ⊢
  rw[he] at hw ⊢
  have ih:∀y∈e.args.items,∀t,(t=0\/t=3)->WT l (tmE y) t->zA (XG GK) TT 77 [zM y,sl 3 vD r]=some (.int .i64 (evC r.items (tmE y))):=λy hy t ht hw=>zYe l r hr N y (by have:=hs y hy;omega) t ht hw
  have hv:∀y t,t≠3->WT l (tmE y) t->zA (XG GK) TT 128 [zM y,sl 3 vD r]=some (vD (evV r.items (tmE y))):=λy t ht hw=>yYi l r (yDk hr) y t ht hw
  have hlen:e.args.items.length<=2:=by rw[xG] at hw;simpa using hw.len
  match h0:e.args.items,hlen with
  |[],_=>
   rw[xG,h0,List.map_nil] at hw ⊢
   rw[yYd]
   exact yLd r e (by rcases hw.inv0 with h|h<;>omega)
  |[a],_=>
   rw[xG,h0,List.map_cons,List.map_nil] at hw ⊢
   rw[yYc]
   obtain⟨t,ht,hc⟩:=hw.inv1
   exact yLc r e a h0 (by omega) _ _ (λh=>hv a t (by omega) ht) (λh=>ih a (by simp[h0]) t (by omega) ht) (zJz _ _)
  | [a,b],_=>
   rw[xG,h0,List.map_cons,List.map_cons,List.map_nil] at hw ⊢
   rw[yYb]
   obtain⟨t,u,ht,hu,hc⟩:=hw.inv2
   have hA:((e.a.1=18\/e.a.1=19)/\(t=0\/t=3)/\(u=0\/u=3))\/((10<=e.a.1/\e.a.1<=16)/\t≠3/\u≠3/\∃z,(t=0\/t=z)/\(u=0\/u=z)):=by
    rcases hc with h|⟨h1,h2,_,z,hz,hz1,hz2⟩|h|h
    ·have h1:=h.2.2.1;clear h;omega
    ·exact .inr ⟨⟨h1,by omega⟩,by omega,by omega,z,hz1,hz2⟩
    ·exact .inr ⟨by omega,by omega,by omega,2,h.2.2.1,.inr h.2.2.2.1⟩
    ·exact .inl ⟨h.1,h.2.2⟩
   clear hc
   rcases hA with⟨hj,hcc⟩|⟨ho,h1,h2,z,hz1,hz2⟩
   ·rw[yLb r e a b h0 hj _ _ (zJz _ _) (zJz _ _) (ih a (by simp[h0]) t hcc.1 ht) (ih b (by simp[h0]) u hcc.2 hu)]
    by_cases h18:e.a.1=18
    ·rw[if_pos h18,if_pos h18]
    ·rw[if_neg h18,if_neg h18,if_pos (hj.resolve_left h18)]
   ·rw[if_neg (λh=>by rw[h] at ho;omega),if_neg (λh=>by rw[h] at ho;omega)]
    exact yLa r e a b h0 ho _ _ z (OKV.of hz1 (ht.val h1 hr)) (OKV.of hz2 (hu.val h2 hr)) (hv a t h1 ht) (hv b u h2 hu)
theorem xAu (l:List Int) (r:Sl Val) (hr:zIj l r.items) (x:Ex) (τ:Int) (hτ:τ=0\/τ=3) (hw:WT l (tmE x) τ):zA (XG GK) TT 77 [zM x,sl 3 vD r]=some (.int .i64 (evC r.items (tmE x))):=zYe l r hr _ x (Nat.lt_succ_self _) τ hτ hw
theorem yQu (l:List Int) (r:Sl Val) (hr:zIj l r.items) (x:Ex) (hw:(tmE x).op=0\/∃τ,(τ=0\/τ=3)/\WT l (tmE x) τ):zA (XG GK) TT 41 [zM x,sl 3 vD r]=some (.bool (mtB (tmE x) r.items)):=by
 obtain⟨e,he,_⟩:=x.open
 have hop:(tmE x).op=e.a.1:=by unfold tmE;rw[he,xG];rfl
 have hc:e.a.1≠0->zA (XG GK) TT 77 [e.enc,sl 3 vD r]=some (.int .i64 (evC r.items (tmE x))):=λh=>by
  rcases hw with hw|⟨τ,hτ,hw⟩
  ·omega
  ·rw[<-he];exact xAu l r hr x τ hτ hw
 unfold mtB
 rw[hop,he]
 refine zD T41 rfl (by simp only[go_sem]) ?_
 unfold Tryz.f41 F41
 simp only[Option.getD_some]
 simp only[vT] at hc
 simp +decide only[go_sem,ra]
 cases c0:(e.a.1==0)
 ·have hc:=hc (by simpa using c0)
  refine gw (an c0 hc) ?_
  simp +decide only[go_sem]
  rw[Bool.false_or]
 ·refine gw c0 ?_
  simp +decide only[go_sem]
  rw[Bool.true_or]
end Go.Eng
namespace Go.Eng
open Go
theorem yEt {X:Ctx} {T:Nat->Option Fx} {f:Nat} {m:Mem} {ds:List D} {Q:D->Mem->Prop}:(wY X T).run f m ds Q=(match zG X T f m ds with|some (r,m')=>Q r m'|none=>False):=rfl
theorem wpI_rf {X:Ctx} {T:Nat->Option Fx} {F:Fi} {g:Operand} {ps:Array Tmp} {a b:Code} {Q:zIt} {st:St} {f:Nat} {cap:List D} (hg:ev X st g=.func f cap) (hf:f<100000)
  (h:∃r m',zG X T f { st.m with boxes:=st.m.boxes++[[yHv F st ps a b]] } (.yld st.m.boxes.length::cap)=some (r,m')/\zCp st.m.boxes.length Q st m'):wpI X F (wY X T) (.rangeFunc g ps a b) Q st:=by
 obtain⟨r,m',h1,h2⟩:=h
 unfold wpI
 rw[hg]
 simp only[hf,decide_true]
 rw[yEt,h1]
 exact h2
theorem wpI_rf' {X:Ctx} {T:Nat->Option Fx} {F:Fi} {g:Operand} {ps:Array Tmp} {a b:Code} {Q:zIt} {st:St} {f:Nat} {cap:List D} (hg:ev X st g=.func f cap) (hf:f<100000)
  (h:∀R,R=yHv F st ps a b->∃r m',zG X T f { st.m with boxes:=st.m.boxes++[[R]] } (.yld st.m.boxes.length::cap)=some (r,m')/\zCp st.m.boxes.length Q st m'):wpI X F (wY X T) (.rangeFunc g ps a b) Q st:=wpI_rf hg hf (h _ rfl)
theorem rnd {X:Ctx} {T:Nat->Option Fx} {id:Nat} {m:Mem} {ds:List D} {Q:D->Mem->Prop} {F:Fi} {xs:List Nat} {sl:List D} {ps:List Nat} {a c:Code} (hm:m.boxes[id]?=some [.lrec F xs sl ps a c 0 0]) (hl:ds.length=ps.length)
  (h:wpI X F (wY X T) a (zFg id (wpI X F (wY X T) c (zBx id Q))) ⟨slL (ps.zip ds++xs.zip sl),opL [],opL [],m⟩):∃r m',zG X T (qQ+id) m ds=some (r,m')/\Q r m':=by
 apply zVj
 unfold zGu
 rw[hm]
 exact⟨hl,h⟩
theorem yXp {X:Ctx} {T:Nat->Option Fx} {id:Nat} {m:Mem} {ds:List D} {P:Mem->Prop} {F:Fi} {xs:List Nat} {sl:List D} {ps:List Nat} {a c:Code} (hm:m.boxes[id]?=some [.lrec F xs sl ps a c 0 0]) (hl:ds.length=ps.length)
  (h:wpI X F (wY X T) a (zFg id (wpI X F (wY X T) c (zBx id λr m=>r=.bool true/\P m))) ⟨slL (ps.zip ds++xs.zip sl),opL [],opL [],m⟩):∃m',zG X T (qQ+id) m ds=some (.bool true,m')/\P m':=by
 obtain⟨r,m',h1,rfl,h2⟩:=rnd hm hl h
 exact⟨m',h1,h2⟩
theorem xLr {X:Ctx} {T:Nat->Option Fx} {id:Nat} {m:Mem} {ds:List D} {P:Mem->Prop} {F:Fi} {xs:List Nat} {sl:List D} {ps:List Nat} {a c:Code} (hm:m.boxes[id]?=some [.lrec F xs sl ps a c 0 0]) (hl:ds.length=ps.length)
  (h:wpI X F (wY X T) a (zFg id (wpI X F (wY X T) c (zBx id λr m=>r=.bool false/\P m))) ⟨slL (ps.zip ds++xs.zip sl),opL [],opL [],m⟩):∃m',zG X T (qQ+id) m ds=some (.bool false,m')/\P m':=by
 obtain⟨r,m',h1,rfl,h2⟩:=rnd hm hl h
 exact⟨m',h1,h2⟩
theorem zUk {id:Nat} {next:St->Prop} {st:St} {F:Fi} {xs:List Nat} {sl:List D} {ps:List Nat} {a c:Code} (hm:st.m.boxes[id]?=some [.lrec F xs sl ps a c 0 0]) (h:next (st.setM { st.m with boxes:=st.m.boxes.set id [.lrec F xs sl ps a c 1 0] })):zFg id next .normal st:=by
 have hs:zOe st.m id 0 1 none=some { st.m with boxes:=st.m.boxes.set id [.lrec F xs sl ps a c 1 0] }:=by unfold zOe;rw[hm];rfl
 show (match zOe st.m id 0 1 none with|some m=>next (st.setM m)|none=>False)
 rw[hs]
 exact h
theorem yDl {id:Nat} {Q:D->Mem->Prop} {st:St} {F:Fi} {xs:List Nat} {sl:List D} {ps:List Nat} {a c:Code} (hm:st.m.boxes[id]?=some [.lrec F xs sl ps a c 1 0]) (h:Q (.bool true) { st.m with boxes:=st.m.boxes.set id [.lrec F xs sl ps a c 0 0] }):zBx id Q .normal st:=by
 have hs:zOe st.m id 1 0 (some 0)=some { st.m with boxes:=st.m.boxes.set id [.lrec F xs sl ps a c 0 0] }:=by unfold zOe;rw[hm];rfl
 show (match zOe st.m id 1 0 (some 0) with|some m=>Q (.bool true) m|none=>False)
 rw[hs]
 exact h
theorem yQd {id k:Nat} {Q:D->Mem->Prop} {st:St} {F:Fi} {xs:List Nat} {sl:List D} {ps:List Nat} {a c:Code} (hm:st.m.boxes[id]?=some [.lrec F xs sl ps a c 1 0]) (h:Q (.bool false) { st.m with boxes:=st.m.boxes.set id [.lrec F xs sl ps a c 2 (k+2)] }):zBx id Q (.exit k) st:=by
 have hs:zOe st.m id 1 2 (some (k+2))=some { st.m with boxes:=st.m.boxes.set id [.lrec F xs sl ps a c 2 (k+2)] }:=by unfold zOe;rw[hm];rfl
 show (match zOe st.m id 1 2 (some (k+2)) with|some m=>Q (.bool false) m|none=>False)
 rw[hs]
 exact h
theorem zUn {id:Nat} {Q:zIt} {st:St} {m:Mem} {F:Fi} {xs:List Nat} {sl:List D} {ps:List Nat} {a c:Code} (hm:m.boxes[id]?=some [.lrec F xs sl ps a c 0 0]) (h:Q .normal (st.setM { m with boxes:=m.boxes.set id [zOi] })):zCp id Q st m:=by
 unfold zCp
 rw[hm]
 exact⟨by decide,by decide,h⟩
theorem ySs {id k:Nat} {Q:zIt} {st:St} {m:Mem} {F:Fi} {xs:List Nat} {sl:List D} {ps:List Nat} {a c:Code} (hm:m.boxes[id]?=some [.lrec F xs sl ps a c 2 (k+2)]) (h:Q (.exit k) (st.setM { m with boxes:=m.boxes.set id [zOi] })):zCp id Q st m:=by
 unfold zCp
 rw[hm]
 exact⟨by decide,by decide,h⟩
theorem vZ {L:List (List D)} {id:Nat} {y:List D} (h:L[id]?=some y) (x:List D):(∀j,j≠id->(L.set id x)[j]?=L[j]?)/\(L.set id x)[id]?=some x/\(L.set id x).length=L.length:=
 ⟨λj hj=>List.getElem?_set_ne (λe=>hj e.symm),List.getElem?_set_self (List.getElem?_eq_some_iff.1 h).1,List.length_set ..⟩
theorem ySk {id:Nat} {next:St->Prop} {st:St} {F:Fi} {xs:List Nat} {sl:List D} {ps:List Nat} {a c:Code} (hm:st.m.boxes[id]?=some [.lrec F xs sl ps a c 0 0]) (h:∀B:List (List D),(∀j,j≠id->B[j]?=st.m.boxes[j]?)->B[id]?=some [.lrec F xs sl ps a c 1 0]->B.length=st.m.boxes.length->next (st.setM { st.m with boxes:=B })):zFg id next .normal st:=
 zUk hm (h _ (vZ hm _).1 (vZ hm _).2.1 (vZ hm _).2.2)
theorem yQe {id:Nat} {Q:D->Mem->Prop} {st:St} {F:Fi} {xs:List Nat} {sl:List D} {ps:List Nat} {a c:Code} (hm:st.m.boxes[id]?=some [.lrec F xs sl ps a c 1 0]) (h:∀B:List (List D),(∀j,j≠id->B[j]?=st.m.boxes[j]?)->B[id]?=some [.lrec F xs sl ps a c 0 0]->B.length=st.m.boxes.length->Q (.bool true) { st.m with boxes:=B }):zBx id Q .normal st:=
 yDl hm (h _ (vZ hm _).1 (vZ hm _).2.1 (vZ hm _).2.2)
theorem ySt {id:Nat} {Q:zIt} {st:St} {m:Mem} {F:Fi} {xs:List Nat} {sl:List D} {ps:List Nat} {a c:Code} (hm:m.boxes[id]?=some [.lrec F xs sl ps a c 0 0]) (h:∀B:List (List D),(∀j,j≠id->B[j]?=m.boxes[j]?)->B.length=m.boxes.length->Q .normal (st.setM { m with boxes:=B })):zCp id Q st m:=
 zUn hm (h _ (vZ hm _).1 (vZ hm _).2.2)
mutual
theorem zQv (f g:Nat->Nat->Nat->Nat->D) (hf:∀a b c d,zF g (f a b c d)=f a b c d):∀d:D,zF g (zF f d)=zF f d
 |.slice _ k es=>by
  show D.slice none k (zC g (zC f es))=D.slice none k (zC f es)
  rw[vS f g hf es]
 |.rsl id off len k=>hf id off len k
 |.ptr id off=>hf id off 0 0
 |.ref cs o=>by
  show D.ref (zC g (zC f cs)) o=D.ref (zC f cs) o
  rw[vS f g hf cs]
 |.func x cap=>by
  show D.func x (zC g (zC f cap))=D.func x (zC f cap)
  rw[vS f g hf cap]
 |.agg cs=>by
  show D.agg (zC g (zC f cs))=D.agg (zC f cs)
  rw[vS f g hf cs]
 |.tuple ds=>by
  show D.tuple (zC g (zC f ds))=D.tuple (zC f ds)
  rw[vS f g hf ds]
 |.int _ _=>rfl
 |.bool _=>rfl
 |.str _=>rfl
 |.nil=>rfl
 |.opq=>rfl
 |.nilptr=>rfl
 |.nilfunc=>rfl
 |.undef=>rfl
 |.nilmp=>rfl
 |.yld _=>rfl
 |.mp _=>rfl
 |.itr _=>rfl
 |.lrec _ _ _ _ _ _ _ _=>rfl
 |.mrec _ _=>rfl
 |.mit _ _ _=>rfl
theorem vS (f g:Nat->Nat->Nat->Nat->D) (hf:∀a b c d,zF g (f a b c d)=f a b c d):∀l:List D,zC g (zC f l)=zC f l
 |[]=>rfl
 |d::r=>by
  show zF g (zF f d)::zC g (zC f r)=zF f d::zC f r
  rw[zQv f g hf d,vS f g hf r]
end
theorem zHx (g:Nat->Nat->Nat->Nat->D):∀(l:List D) (k:Nat),zC g (l.take k)=(zC g l).take k
 |[],k=>by cases k<;>rfl
 |d::r,0=>rfl
 |d::r,k+1=>by
  show zF g d::zC g (r.take k)=zF g d::(zC g r).take k
  rw[zHx g r k]
theorem zHy (g:Nat->Nat->Nat->Nat->D):∀(l:List D) (k:Nat),zC g (l.drop k)=(zC g l).drop k
 |[],k=>by cases k<;>rfl
 |d::r,0=>rfl
 |d::r,k+1=>by
  show zC g (r.drop k)=(zC g r).drop k
  rw[zHy g r k]
theorem zZm (g:Nat->Nat->Nat->Nat->D) (k:Nat) (l:List D) (h:zC g l=l):zF g (yBn k l)=yBn k l:=by
 unfold yBn
 split
 ·rename_i c
  have h:[zF g c]=[c]:=h
  exact(List.cons.inj h).1
 ·show D.agg (zC g l)=_
  rw[h]
theorem zHv (g:Nat->Nat->Nat->Nat->D) (k:Nat):∀(n:Nat) (l:List D),zC g l=l->zC g (wI k n l)=wI k n l
 |0,_,_=>rfl
 |n+1,l,h=>by
  show zF g (yBn k (l.take k))::zC g (wI k n (l.drop k))=_
  rw[zZm g k _ (by rw[zHx,h]),zHv g k n _ (by rw[zHy,h])]
  rfl
theorem zRx (g:Nat->Nat->Nat->Nat->D) (m:Mem):∀(n a b c d:Nat),zF g (vM m n a b c d)=vM m n a b c d
 |0,_,_,_,_=>rfl
 | n +1,a,b,c,d=>by
  have ih:=zRx g m n
  simp only[vM]
  split
  ·rename_i cs _
   split
   ·show D.ref (zC g (zC (vM m n) cs)) b=_
    rw[vS _ _ ih]
   ·cases decide (b+c*d<=cs.length) with
    |false=>rfl
    |true=>
     show D.slice none _ (zC g (wI _ _ (zC (vM m n) (cs.drop b))))=_
     rw[zHv g _ _ _ (vS _ _ ih _)]
     rfl
  ·rfl
theorem zXu (g:Nat->Nat->Nat->Nat->D) (m:Mem) (n:Nat) (d:D):zF g (zF (vM m n) d)=zF (vM m n) d:=zQv _ _ (zRx g m n) d
end Go.Eng
