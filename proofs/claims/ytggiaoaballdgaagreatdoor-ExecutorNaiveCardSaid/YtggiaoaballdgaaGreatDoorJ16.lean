/- A part of the proof: see the last text. -/
import Derived.Test.YtggiaoaballdgaaGreatDoorJ13
import Derived.Test.YtggiaoaballdgaaGreatDoorJ15
set_option linter.unusedSimpArgs false
set_option linter.unusedVariables false
namespace Go.Eng
open Go Go.Proofs
open Nat renaming reduceAdd → ra, reduceMul → rb, reduceSub → rc
set_option maxRecDepth 20000
set_option maxHeartbeats 32000000
attribute [local irreducible] wpI xU
variable {G:Nat->Option (List D)}
@[go_sem] theorem xRy (P:Program) (t:Nat) (k k':IntKind) (a b:Int):zAa P t .rem (.int k a) (.int k' b)=bif decide (k=k') then zIr .rem k a b else none:=rfl
def tmE (e:Ex):Tm:=tmD (zM e)
theorem xG (r:ExR):tmD r.enc=.nd r.a.1 r.b.1 ⟨r.c.1,r.d.1,r.u⟩ (r.args.items.map tmE):=by
 unfold ExR.enc sl Sl.items
 cases r.args.1 with
 |none=>rw[tmD]<;>first|rfl|(intro _ _ _ h;cases h)
 |some l=>rw[tmD,yDa,List.map_map];rfl
theorem yKp (a n:Int) (hn:1<=n):zA (XG G) TT 176 [.int .i64 a,.int .i64 n]=some (.int .i64 (flo a n)):=by
 refine zD T176 rfl (by simp only[go_sem]) ?_
 unfold Tryz.f176 xJl
 simp only[Option.getD_some]
 have z:(n==0)=false:=by simp;omega
 have z2:decide (n<0)=false:=by simp;omega
 have b3:(true==false)=false:=rfl
 have b4:(false==false)=true:=rfl
 have b5:(!false)=true:=rfl
 have b6:(!true)=false:=rfl
 have hs:=yEk (a:=a) hn
 simp +decide only[go_sem,ra]
 cases c1:(a.tmod n != 0)
 ·refine gw (an7 z z2 b3 b4 b5 b6 c1) ?_
  simp +decide only[go_sem]
  rw[flo,if_neg (by simp at c1;omega)]
 ·cases c2:(decide (a<0))
  ·refine gw (an8 z z2 b3 b4 b5 b6 c1 c2) ?_
   simp +decide only[go_sem]
   rw[flo,if_neg (by simp at c1 c2;omega)]
  ·refine gw (an8 z z2 b3 b4 b5 b6 c1 c2) ?_
   simp +decide only[go_sem]
   rw[flo,if_pos (by simp at c1 c2;omega)]
theorem zJq (n:Int):zA (XG G) TT 175 [.int .i64 n]=some (.agg [.int .i64 1,.int .i64 n,.str []]):=by
 refine zD T175 rfl (by simp only[go_sem]) ?_
 unfold Tryz.f175 xJm
 simp only[Option.getD_some]
 simp +decide only[go_sem]
 refine gw trivial ?_
 simp +decide only[go_sem,ra]
theorem yNv {l:List Int} {r:Sl Val} (hr:l.length<=r.items.length) {n:Nat} {t:Int} (h:l[n]?=some t):∃v,r.items[n]?=some v:=by
 have:=(List.getElem?_eq_some_iff.1 h).1
 exact⟨_,List.getElem?_eq_getElem (by omega)⟩
theorem yIp (l:List Int) (r:Sl Val) (hr:l.length<=r.items.length) (e:ExR) (h0:e.args.items=[]) (τ:Int) (hw:WT l (tmD e.enc) τ):zA (XG G) TT 120 [e.enc,sl 3 vD r]=some (vD (evV r.items (tmD e.enc))):=by
 rw[xG,h0,List.map_nil] at hw ⊢
 rw[yYa]
 refine zD T120 rfl (by simp only[go_sem]) ?_
 unfold Tryz.f120 yXm
 simp only[Option.getD_some]
 simp +decide only[go_sem,ra]
 rcases hw.inv0 with⟨h1,_⟩|⟨h2,n,hn,hl,_⟩
 ·have e1:(e.a.1==1)=true:=by simp[h1]
  rw[if_neg (by omega)]
  refine gw e1 ?_
  simp +decide only[go_sem,ra]
 ·have e1:(e.a.1==1)=false:=by simp[h2]
  have e2:(e.a.1==2)=true:=by simp[h2]
  obtain⟨v,hv⟩:=yNv hr hl
  have hv':atI r.items e.b.1=some v:=by rw[hn];exact hv
  rw[if_pos h2,hv']
  refine gw (an3 e1 e2 hv') ?_
  simp +decide only[go_sem,ra]
  rfl
theorem yIo (l:List Int) (r:Sl Val) (e:ExR) (x:Ex) (h0:e.args.items=[x]) (τ:Int) (hτ:τ≠3) (hw:WT l (tmD e.enc) τ)
  (ih:∀t,t≠3->WT l (tmE x) t->zA (XG G) TT 120 [zM x,sl 3 vD r]=some (vD (evV r.items (tmE x)))):zA (XG G) TT 120 [e.enc,sl 3 vD r]=some (vD (evV r.items (tmD e.enc))):=by
 rw[xG,h0,List.map_cons,List.map_nil] at hw ⊢
 rw[yXz]
 obtain⟨t,ht,hc⟩:=hw.inv1
 have hi:=ih t (by omega) ht
 simp only[zBg] at hi
 refine zD T120 rfl (by simp only[go_sem]) ?_
 unfold Tryz.f120 yXm
 simp only[Option.getD_some]
 have e1:(e.a.1==1)=false:=by simp;omega
 have e2:(e.a.1==2)=false:=by simp;omega
 have at0:atI e.args.items 0=some x:=by rw[h0];rfl
 generalize evV r.items (tmE x)=w at *
 simp +decide only[go_sem,ra]
 cases k0:(w.k==0)
 ·rw[if_neg (by simpa using k0)]
  by_cases h3:e.a.1=3
  ·have e3:(e.a.1==3)=true:=by simp[h3]
   rw[if_pos h3]
   have hn:=zJq (G:=G) (wr (0-w.n))
   refine gw (an7 e1 e2 at0 hi k0 e3 hn) ?_
   simp +decide only[go_sem,ra]
  ·have e3:(e.a.1==3)=false:=by simp[h3]
   have e9:(e.a.1==9)=true:=by simp;omega
   rw[if_neg h3]
   have hn:=zJq (G:=G) (w.s.length:Int)
   refine gw (an8 e1 e2 at0 hi k0 e3 e9 hn) ?_
   simp +decide only[go_sem,ra]
 ·rw[if_pos (by simpa using k0)]
  refine gw (an5 e1 e2 at0 hi k0) ?_
  simp +decide only[go_sem]
  rfl
theorem yIn (l:List Int) (r:Sl Val) (e:ExR) (x y:Ex) (h0:e.args.items=[x,y]) (τ:Int) (hτ:τ≠3) (hw:WT l (tmD e.enc) τ)
  (ih1:∀t,t≠3->WT l (tmE x) t->zA (XG G) TT 120 [zM x,sl 3 vD r]=some (vD (evV r.items (tmE x))))
  (ih2:∀t,t≠3->WT l (tmE y) t->zA (XG G) TT 120 [zM y,sl 3 vD r]=some (vD (evV r.items (tmE y)))):zA (XG G) TT 120 [e.enc,sl 3 vD r]=some (vD (evV r.items (tmD e.enc))):=by
 rw[xG,h0,List.map_cons,List.map_cons,List.map_nil] at hw ⊢
 rw[yXy]
 obtain⟨t,u,ht,hu,hc⟩:=hw.inv2
 have hop:4<=e.a.1/\e.a.1<=8:=by omega
 have hc:(t=0\/t=1)/\(u=0\/u=1)/\(7<=e.a.1->∃n:Int,1<=n/\n<=1000/\∀r,evV r (tmE y)=⟨1,n,[]⟩):=by
  rcases hc with h|h|h|h
  ·exact⟨h.2.2.2.1,h.2.2.2.2.1,h.2.2.2.2.2⟩
  ·omega
  ·omega
  ·omega
 have hi:=ih1 t (by omega) ht
 have hj:=ih2 u (by omega) hu
 simp only[zBg] at hi hj
 have hdiv:7<=e.a.1->∃n:Int,1<=n/\evV r.items (tmE y)=⟨1,n,[]⟩:=λh=>by
  obtain⟨n,h1,_,h2⟩:=hc.2.2 h;exact⟨n,h1,h2 _⟩
 refine zD T120 rfl (by simp only[go_sem]) ?_
 unfold Tryz.f120 yXm
 simp only[Option.getD_some]
 have e1:(e.a.1==1)=false:=by simp;omega
 have e2:(e.a.1==2)=false:=by simp;omega
 have e3:(e.a.1==3)=false:=by simp;omega
 have e9:(e.a.1==9)=false:=by simp;omega
 have at0:atI e.args.items 0=some x:=by rw[h0];rfl
 have at1:atI e.args.items 1=some y:=by rw[h0];rfl
 generalize evV r.items (tmE x)=w at *
 generalize evV r.items (tmE y)=z at *
 simp +decide only[go_sem,ra]
 cases k0:(w.k==0)
 ·rw[if_neg (by simpa using k0)]
  cases k1:(z.k==0)
  ·rw[if_neg (by simpa using k1)]
   unfold arith
   by_cases h4:e.a.1=4
   ·have f4:(e.a.1==4)=true:=by simp[h4]
    have hn:=zJq (G:=G) (wr (w.n+z.n))
    rw[if_pos h4]
    refine gw (an9 e1 e2 e3 e9 at0 at1 hi hj (an4 k0 k1 f4 hn)) ?_
    simp +decide only[go_sem,ra]
   have f4:(e.a.1==4)=false:=by simp[h4]
   rw[if_neg h4]
   by_cases h5:e.a.1=5
   ·have f5:(e.a.1==5)=true:=by simp[h5]
    have hn:=zJq (G:=G) (wr (w.n-z.n))
    rw[if_pos h5]
    refine gw (an9 e1 e2 e3 e9 at0 at1 hi hj (an5 k0 k1 f4 f5 hn)) ?_
    simp +decide only[go_sem,ra]
   have f5:(e.a.1==5)=false:=by simp[h5]
   rw[if_neg h5]
   by_cases h6:e.a.1=6
   ·have f6:(e.a.1==6)=true:=by simp[h6]
    have hn:=zJq (G:=G) (wr (w.n*z.n))
    rw[if_pos h6]
    refine gw (an9 e1 e2 e3 e9 at0 at1 hi hj (an6 k0 k1 f4 f5 f6 hn)) ?_
    simp +decide only[go_sem,ra]
   have f6:(e.a.1==6)=false:=by simp[h6]
   rw[if_neg h6]
   obtain⟨n,hn1,hz⟩:=hdiv (by omega)
   subst hz
   have hf:=yKp (G:=G) w.n n hn1
   by_cases h7:e.a.1=7
   ·have f7:(e.a.1==7)=true:=by simp[h7]
    have hn:=zJq (G:=G) (flo w.n n)
    rw[if_pos h7]
    refine gw (an9 e1 e2 e3 e9 at0 at1 hi hj (an8 k0 k1 f4 f5 f6 f7 hn hf)) ?_
    simp +decide only[go_sem,ra]
   have f7:(e.a.1==7)=false:=by simp[h7]
   rw[if_neg h7]
   have hn:=zJq (G:=G) (wr (w.n-wr (n*flo w.n n)))
   refine gw (an9 e1 e2 e3 e9 at0 at1 hi hj (an8 k0 k1 f4 f5 f6 f7 hn hf)) ?_
   simp +decide only[go_sem,ra]
  ·rw[if_pos (by simpa using k1)]
   refine gw (an9 e1 e2 e3 e9 at0 at1 hi hj (an k0 k1)) ?_
   simp +decide only[go_sem]
   rfl
 ·rw[if_pos (by simpa using k0)]
  refine gw (an9 e1 e2 e3 e9 at0 at1 hi hj k0) ?_
  simp +decide only[go_sem]
  rfl
theorem zWq (l:List Int) (r:Sl Val) (hr:l.length<=r.items.length):∀(N:Nat) (x:Ex),SizeOf.sizeOf (zM x)<N->∀τ,τ≠3->WT l (tmE x) τ->zA (XG G) TT 120 [zM x,sl 3 vD r]=some (vD (evV r.items (tmE x)))
 |0,x,h,τ,hτ,hw=>absurd h (Nat.not_lt_zero _)
 |N+1,x,h,τ,hτ,hw=>by
  obtain⟨e,he,hs⟩:=x.open
  unfold tmE at hw ⊢
  rw[he] at hw ⊢
  have ih:∀y∈e.args.items,∀t,t≠3->WT l (tmE y) t->zA (XG G) TT 120 [zM y,sl 3 vD r]=some (vD (evV r.items (tmE y))):=λy hy t ht hw=>zWq l r hr N y (by have:=hs y hy;omega) t ht hw
  have hlen:e.args.items.length<=2:=by rw[xG] at hw;simpa using hw.len
  match h0:e.args.items,hlen with
  |[],_=>exact yIp l r hr e h0 τ hw
  |[a],_=>exact yIo l r e a h0 τ hτ hw (ih a (by simp[h0]))
  |[a,b],_=>exact yIn l r e a b h0 τ hτ hw (ih a (by simp[h0])) (ih b (by simp[h0]))
theorem yMu (l:List Int) (r:Sl Val) (hr:l.length<=r.items.length) (x:Ex) (τ:Int) (hτ:τ≠3) (hw:WT l (tmE x) τ):zA (XG G) TT 120 [zM x,sl 3 vD r]=some (vD (evV r.items (tmE x))):=zWq l r hr _ x (Nat.lt_succ_self _) τ hτ hw
@[go_sem] theorem yHq {X:Ctx} {m:Mem} {st:St} (bx:Bool) (t:Nat) (l c:Operand):wO X bx m st (.makeSlice t l c)=match zI X.P t,ev X st l,ev X st c with
  |some e,.int .i64 n,.int .i64 n'=>(match yS X.P e,yV X.P e,xA X.P e with
   | some k,true,some z=>bif z.okC&&decide (z.cells.length=k)&&decide (0<=n)&&decide (n=n')&&decide (n<=16777216) then
     some (.rsl m.boxes.length 0 n.toNat k,{ m with boxes:=m.boxes++[zV (List.replicate n.toNat z)] }) else none
   |_,_,_=>none)
  |_,_,_=>none:=rfl
@[go_sem] theorem m0Of_eq (F:Fi) (id:Nat) (st:St):yHd F id st=match wX F.bad (id+1000000) with
 |true=>zVp (zFb st.sl F.ext) st.m
 |false=>st.m:=rfl
def bD (b:Bool):D:=.bool b
def bR (n:Nat) (f:Nat->Bool):List D:=(List.range n).map λi=>bD (f i)
theorem zJv (n:Nat) (f:Nat->Bool):(bR n f).length=n:=by simp[bR]
theorem zEc {n:Nat} {f:Nat->Bool} {i:Nat} (h:i<n):(bR n f)[i]?=some (.bool (f i)):=by
 unfold bR;rw[List.getElem?_map,List.getElem?_range h];rfl
theorem yCq (n:Nat) (f:Nat->Bool):wB (bR n f)=false:=by
 cases h:bR n f with
 |nil=>rfl
 | cons a r=>
  cases r with
  |nil=>
   have:a∈bR n f:=by rw[h];simp
   unfold bR at this
   obtain⟨i,_,rfl⟩:=List.mem_map.1 this
   rfl
  |cons b r=>rfl
theorem zJw {n:Nat} {f g:Nat->Bool} (h:∀i,i<n->f i=g i):bR n f=bR n g:=by
 unfold bR;exact List.map_congr_left λi hi=>by rw[h i (List.mem_range.1 hi)]
theorem zJu {n:Nat} {f:Nat->Bool} {i:Nat} {b:Bool}:(bR n f).set i (.bool b)=bR n λj=>if j=i then b else f j:=by
 refine List.ext_getElem? λj=>?_
 by_cases hj:j<n
 ·rw[zEc hj,List.getElem?_set]
  by_cases e:i=j
  ·subst e;rw[if_pos rfl,if_pos (by rw[zJv];exact hj),if_pos rfl]
  ·rw[if_neg e,zEc hj,if_neg (λh=>e h.symm)]
 ·rw[List.getElem?_eq_none (by rw[List.length_set,zJv];omega),List.getElem?_eq_none (by rw[zJv];omega)]
theorem zXz (n:Nat):zV (List.replicate n (.bool false))=bR n λ_=>false:=by
 have:zV (List.replicate n (.bool false))=List.replicate n (.bool false):=by
  induction n with
  |zero=>rfl
  |succ n ih=>rw[List.replicate_succ,zV,ih];rfl
 rw[this]
 refine List.ext_getElem? λj=>?_
 by_cases hj:j<n
 ·rw[zEc hj,List.getElem?_replicate,if_pos hj]
 ·rw[List.getElem?_eq_none (by simp;omega),List.getElem?_eq_none (by rw[zJv];omega)]
theorem zHg {p t:Str} {i j:Nat} {c:UInt8} (h:p[j]?=some c):xJ p t i (j+1)=if c=37 then(List.range (i+1)).any λi'=>xJ p t i' j else(match i with
   |0=>false
   |i+1=>xJ p t i j&&(c==95||t[i]?==some c)):=by
 rw[xJ];simp only[h];cases i<;>rfl
theorem yQy (t p:Str) (ht:t.length<=1000) (hp:p.length<=1000):zA (XG G) TT 122 [.str t,.str p]=some (.bool (zZb t p)):=by
 refine zD T122 rfl (by simp only[go_sem]) ?_
 unfold Tryz.f122 xKu
 simp only[Option.getD_some]
 have w1:=yU t.length (by omega)
 have h1:((t.length:Int)+1<=16777216)=True:=eq_true (by omega)
 have h2:(0<=(t.length:Int)+1)=True:=eq_true (by omega)
 have h3:(((t.length+1:Nat):Int)<=16777216)=True:=eq_true (by omega)
 have h4:(0<=((t.length+1:Nat):Int))=True:=eq_true (by omega)
 have h5:(((t.length+1:Nat):Int)).toNat=t.length+1:=rfl
 have h6:zV (D.bool false::List.replicate t.length (D.bool false))=bR (t.length+1) λ_=>false:=zXz (t.length+1)
 have h7:=yCq (t.length+1)
 have h8:=zJv (t.length+1)
 have h9:((0:Int)<((t.length+1:Nat):Int))=True:=eq_true (by omega)
 have t0:Int.toNat 0=0:=rfl
 have h10:(0+1<=t.length+1)=True:=eq_true (by omega)
 have h11:((bR (t.length+1) λ_=>false).set 0 (D.bool true))=bR (t.length+1) λi=>xJ p t i 0:=by
  rw[zJu];refine zJw λi _=>?_
  rw[xJ]
  by_cases e:i=0
  ·simp[e]
  ·simp[e]
 simp +decide only[go_sem,ra]
 refine gw (an9 w1 h1 h2 h3 h4 h5 h6 h7 (an5 h8 h9 t0 h10 h11)) ?_
 refine lpC (T:=List (List D)) [0,1,5,6] (λB=>[(5,.rsl B.length 0 (t.length+1) 1),(6,.int .i64 (B.length:Int))]) (λ_=>[]) (λB=>⟨B++[bR (t.length+1) λi=>xJ p t i B.length],[]⟩) (λB=>B.length<=p.length) (λB=>p.length-B.length) [] (by simp) ?_
 rintro B hB
 have x1:∀x:List D,(B++[x])[B.length]?=some x:=λx=>by simp
 have x2:∀x y:List D,(B++[x]++[y])[B.length]?=some x:=λx y=>by simp
 have x3:∀x y:List D,(B++[x]++[y])[B.length+1]?=some y:=λx y=>by simp
 have x4:∀x y z:List D,(B++[x]++[y]).set (B.length+1) z=B++[x]++[z]:=λx y z=>by simp
 have x5:∀x:List D,(B++[x]).length=B.length+1:=λx=>by simp
 by_cases h:B.length<p.length
 ·obtain ⟨l_c,c,g_c,w_c⟩:=elm (L:=p) (k:=B.length) (by assumption) (by omega)
  refine gw (an9 w1 h1 h2 h3 h4 h5 h6 h7 (an9 h8 h9 t0 h10 h11 x1 x2 x3 (an5 x4 x5 l_c g_c w_c))) ?_
  refine lpC (T:=Nat) [0,1,5,6,7,8] (λj=>[(8,.int .i64 (j:Int))]) (λ_=>[]) (λj=>⟨B++[bR (t.length+1) λi=>xJ p t i B.length]++[bR (t.length+1) λi=>if i<j then xJ p t i (B.length+1) else false],[]⟩) (λj=>j<=t.length+1) (λj=>t.length+1-j) 0 (by simp) ?_
  rintro j hj
  have hst:=zHg (p:=p) (t:=t) (i:=j) (j:=B.length) g_c
  by_cases hjl:j<t.length+1
  ·have l_j:((j:Int)<=(t.length:Int))=True:=eq_true (by omega)
   have m_j:((j:Int)<((t.length+1:Nat):Int))=True:=eq_true (by omega)
   have n_j:(j+1<=t.length+1)=True:=eq_true (by omega)
   have w_j:=yU j (by omega)
   have g_j:(bR (t.length+1) λi=>xJ p t i B.length)[j]?=some (.bool (xJ p t j B.length)):=zEc hjl
   have z_j:∀b:Bool,xJ p t j (B.length+1)=b->((bR (t.length+1) λi=>if i<j then xJ p t i (B.length+1) else false).set j (D.bool b))=bR (t.length+1) λi=>if i<j+1 then xJ p t i (B.length+1) else false:=λb hb=>by
    rw[zJu]
    refine zJw λi _=>?_
    by_cases e:i=j
    ·subst e;rw[if_pos rfl,if_pos (by omega),hb]
    ·by_cases e2:i<j
     ·rw[if_neg e,if_pos e2,if_pos (by omega)]
     ·rw[if_neg e,if_neg e2,if_neg (by omega)]
   cases c37:((c.toNat:Int)==37)
   ·have c37':c≠37:=λe=>by rw[e] at c37;exact absurd c37 (by decide)
    rw[hst] at z_j
    rw[if_neg c37'] at z_j
    cases j with
    | zero=>
     have p0:((0:Int)<((0:Nat):Int))=False:=eq_false (by omega)
     refine gw (an9 w1 h1 h2 h3 h4 h5 h6 h7 (an9 h8 h9 t0 h10 h11 x1 x2 x3 (an9 x4 x5 l_c g_c w_c l_j m_j n_j (an4 w_j g_j c37 p0)))) ?_
     refine⟨1,?_,by omega,by omega⟩
     have:(bR (t.length+1) λi=>if i<1 then xJ p t i (B.length+1) else false)=bR (t.length+1) λi=>if i<0 then xJ p t i (B.length+1) else false:=zJw λi _=>by
      by_cases e:i=0
      ·subst e;rw[if_pos (by omega),if_neg (by omega),zHg g_c,if_neg c37']
      ·rw[if_neg (by omega),if_neg (by omega)]
     rw[this]
     exact by simp +decide only[go_sem]<;>rfl
    | succ j=>
     have p0:((0:Int)<((j+1:Nat):Int))=True:=eq_true (by omega)
     have s_j:IntKind.i64.wrap (((j+1:Nat):Int)-1)=(j:Int):=by rw[yD _ (by omega)];omega
     have q_j:((j:Int)<((t.length+1:Nat):Int))=True:=eq_true (by omega)
     have f_j:(bR (t.length+1) λi=>xJ p t i B.length)[j]?=some (.bool (xJ p t j B.length)):=zEc (by omega)
     obtain⟨x,g_x⟩:∃x,t[j]?=some x:=⟨_,List.getElem?_eq_getElem (by omega)⟩
     replace z_j:=λ(b:Bool) (hb:(xJ p t j B.length&&(c==95||some x==some c))=b)=>z_j b (by rw[<-hb,<-g_x])
     cases b1:(xJ p t j B.length)
     ·rw[b1] at z_j
      have z:=z_j false rfl
      refine gw (an9 w1 h1 h2 h3 h4 h5 h6 h7 (an9 h8 h9 t0 h10 h11 x1 x2 x3 (an9 x4 x5 l_c g_c w_c l_j m_j n_j (an9 w_j g_j c37 p0 s_j q_j f_j g_x (an b1 z))))) ?_
      exact⟨j+1+1,by simp +decide only[go_sem]<;>rfl,by omega,by omega⟩
     ·rw [b1] at z_j
      cases b2:((c.toNat:Int)==95)
      ·have b2':(c==95)=false:=by
        cases e:(c==95) with
        |false=>rfl
        |true=>rw[eq_of_beq e] at b2;exact absurd b2 (by decide)
       rw[b2'] at z_j
       cases b3:((c.toNat:Int)==x.toNat)
       ·have b3':(some x==some c)=false:=by
         cases e:(some x==some c) with
         |false=>rfl
         |true=>
          have:x=c:=by simpa using e
          rw[this] at b3;simp at b3
        have z:=z_j false (by rw[b3'];rfl)
        refine gw (an9 w1 h1 h2 h3 h4 h5 h6 h7 (an9 h8 h9 t0 h10 h11 x1 x2 x3 (an9 x4 x5 l_c g_c w_c l_j m_j n_j (an9 w_j g_j c37 p0 s_j q_j f_j g_x (an4 b1 b2 b3 z))))) ?_
        exact⟨j+1+1,by simp +decide only[go_sem]<;>rfl,by omega,by omega⟩
       ·have b3':(some x==some c)=true:=by
         have:x=c:=zEb (by have:=eq_of_beq b3;omega)
         rw[this];simp
        have z:=z_j true (by rw[b3'];rfl)
        refine gw (an9 w1 h1 h2 h3 h4 h5 h6 h7 (an9 h8 h9 t0 h10 h11 x1 x2 x3 (an9 x4 x5 l_c g_c w_c l_j m_j n_j (an9 w_j g_j c37 p0 s_j q_j f_j g_x (an4 b1 b2 b3 z))))) ?_
        exact⟨j+1+1,by simp +decide only[go_sem]<;>rfl,by omega,by omega⟩
      ·have b2':(c==95)=true:=by
        have:c=95:=zEb (by have:=eq_of_beq b2;show c.toNat=95;omega)
        rw[this];rfl
       rw[b2'] at z_j
       have z:=z_j true rfl
       refine gw (an9 w1 h1 h2 h3 h4 h5 h6 h7 (an9 h8 h9 t0 h10 h11 x1 x2 x3 (an9 x4 x5 l_c g_c w_c l_j m_j n_j (an9 w_j g_j c37 p0 s_j q_j f_j g_x (an3 b1 b2 z))))) ?_
       exact⟨j+1+1,by simp +decide only[go_sem]<;>rfl,by omega,by omega⟩
   ·have c37':c=37:=zEb (by have:=eq_of_beq c37;show c.toNat=37;omega)
    rw[hst,if_pos c37',List.range_succ,List.any_append] at z_j
    simp only[List.any_cons,List.any_nil,Bool.or_false] at z_j
    cases b1:(xJ p t j B.length)
    ·rw[b1,Bool.or_false] at z_j
     cases j with
     |zero=>
      have p0:((0:Int)<((0:Nat):Int))=False:=eq_false (by omega)
      have z:=z_j false rfl
      refine gw (an9 w1 h1 h2 h3 h4 h5 h6 h7 (an9 h8 h9 t0 h10 h11 x1 x2 x3 (an9 x4 x5 l_c g_c w_c l_j m_j n_j (an6 w_j g_j c37 b1 p0 z)))) ?_
      exact⟨1,by simp +decide only[go_sem]<;>rfl,by omega,by omega⟩
     | succ j=>
      have p0:((0:Int)<((j+1:Nat):Int))=True:=eq_true (by omega)
      have s_j:IntKind.i64.wrap (((j+1:Nat):Int)-1)=(j:Int):=by rw[yD _ (by omega)];omega
      have q_j:((j:Int)<((t.length+1:Nat):Int))=True:=eq_true (by omega)
      have f_j:(bR (t.length+1) λi=>if i<j+1 then xJ p t i (B.length+1) else false)[j]?=some (.bool ((List.range (j+1)).any λi'=>xJ p t i' B.length)):=by
       rw[zEc (by omega),if_pos (by omega),zHg g_c,if_pos c37']
      generalize hb:((List.range (j+1)).any λi'=>xJ p t i' B.length)=bb at z_j f_j
      have z:=z_j _ rfl
      refine gw (an9 w1 h1 h2 h3 h4 h5 h6 h7 (an9 h8 h9 t0 h10 h11 x1 x2 x3 (an9 x4 x5 l_c g_c w_c l_j m_j n_j (an9 w_j g_j c37 b1 p0 s_j q_j f_j z)))) ?_
      exact⟨j+1+1,by simp +decide only[go_sem]<;>rfl,by omega,by omega⟩
    ·rw[b1,Bool.or_true] at z_j
     have z:=z_j true rfl
     refine gw (an9 w1 h1 h2 h3 h4 h5 h6 h7 (an9 h8 h9 t0 h10 h11 x1 x2 x3 (an9 x4 x5 l_c g_c w_c l_j m_j n_j (an5 w_j g_j c37 b1 z)))) ?_
     exact⟨j+1,by simp +decide only[go_sem]<;>rfl,by omega,by omega⟩
  ·have l_j:((j:Int)<=(t.length:Int))=False:=eq_false (by omega)
   obtain rfl:j=t.length+1:=by omega
   have e:(bR (t.length+1) λi=>if i<t.length+1 then xJ p t i (B.length+1) else false)=bR (t.length+1) λi=>xJ p t i (B.length+1):=zJw λi hi=>by rw[if_pos hi]
   rw[e]
   refine gw (an9 w1 h1 h2 h3 h4 h5 h6 h7 (an9 h8 h9 t0 h10 h11 x1 x2 x3 (an6 x4 x5 l_c g_c w_c l_j))) ?_
   refine⟨B++[bR (t.length+1) λi=>xJ p t i B.length],?_,by simp only[x5];omega,by simp only[x5];omega⟩
   exact by simp +decide only[go_sem,x5]<;>rfl
 ·have l_c:((B.length:Int)<((p).length:Int))=False:=by simp;omega
  have e:B.length=p.length:=by omega
  have g1:(bR (t.length+1) λi=>xJ p t i B.length)[t.length]?=some (.bool (xJ p t t.length B.length)):=zEc (by omega)
  have g2:((t.length:Int)<((t.length+1:Nat):Int))=True:=eq_true (by omega)
  repeat (first|(with_reducible first|refine q1 ?_|refine q2 ?_|refine q3 ?_|refine q4 ?_|refine q5 ?_|refine q6 ?_|refine q7 ?_|refine q8 ?_|refine q9 ?_|refine q10 ?_|refine q11 ?_|refine q12 (by decide) ?_)|((first|with_reducible refine q13 ?_|((with_reducible refine q14 ?_ ?_);focus exact rfl));intro K hK;simp +decide only[go_sem,h7,x1,l_c,g1,g2,zMx];with_reducible refine hK _ ?_;clear hK K)|(with_reducible refine q15 ?_;intro K J hK hJ;simp +decide only[go_sem];(with_reducible first|refine hK ?_|refine hJ ?_);clear hK hJ K J))
  simp +decide only[go_sem,x5]
  unfold zZb
  rw[e]
end Go.Eng
