/- A part of the proof: see the last text. -/
import Derived.Test.YtggiaoaballdgaaGreatDoorJ41
import Derived.Test.YtggiaoaballdgaaGreatDoorJ8
set_option linter.unusedSimpArgs false
set_option linter.unusedVariables false
namespace Go.Eng
open Go Go.Proofs
def yXx (pk:(Sl I64->Bool)->List (Sl I64)->Option Nat) (s:List Tbl) (cols:List Col) (f:FgS):Option (Fgn×Tbl×List I64):=
 match zDz cols [] f.cols.items,fnd (λt:Tbl=>t.name==f.table) 0 s with
 | some a,some n=>(match s[n]? with
  | some u=>(match zDz u.cols.items [] f.refs.items with
   |some b=>(match pk (λk=>eqI k.items b) u.keys.items with
    |some j=>some (⟨cn a,iN n,iN j⟩,u,b)
    |none=>none)
   |none=>none)
  |none=>none)
 |_,_=>none
theorem zFv (cols:List Col):∀(l:List Str) (acc r:List I64),zDz cols acc l=some r->r.length=acc.length+l.length
 |[],acc,r,h=>by cases h;rfl
 | n::t,acc,r,h=>by
  rw[zDz] at h
  cases hf:fnd (λc:Col=>c.name==n) 0 cols with
  |none=>rw[hf] at h;cases h
  |some k=>
   rw[hf] at h
   have:=zFv cols t _ r h
   simp at this ⊢;omega
end Go.Eng
namespace Go.Eng
open Go Go.Proofs
open Nat renaming reduceAdd → ra, reduceMul → rb, reduceSub → rc
set_option maxRecDepth 20000
set_option maxHeartbeats 32000000
attribute [local irreducible] wpI xU
theorem yBr.ofAcc {α:Type} {k:Nat} {f:α->D} (b:List Nat) (l:List α) (hl:l.length<4611686018427387904) (h:∀x,zF noR (f x)=f x):yBr k f (cn l) (zAl b k (l.map f)) where
 strip:=by rw[qM (zL f h l),qF k f hl]
 len:=λP u=>by rw[yFf,List.length_map,yR hl]
 idx:=λP t kk n=>by
  rw[yFn,yR hl]
  cases zN P t with
  |none=>rfl
  |some k'=>
   have:atI (l.map f) n=(atI l n).map f:=by cases n<;>simp[atI]
   rw[this]
   cases atI l n<;>rfl
 ok:=zXi _ _ _
 cells:=zOb _ _ _
def yHc {α:Type}:Sl α:=yPc none (by simp)
@[go_sem] theorem yPx {α:Type} (k:Nat) (f:α->D):sl k f yHc=.nil:=rfl
def zTm (cols:List Col) (acc:List (Sl I64)):List (Sl Str)->Option (List (Sl I64))
 |[]=>some acc
 |k::r=>match zDz cols [] k.items with
  |some l=>zTm cols (acc++[cn l]) r
  |none=>none
def zFc {α:Type} (p:α->Bool):List α->Option Nat
 |[]=>none
 |a::r=>match zFc p r with
  |some j=>some (j+1)
  |none=>match p a with|true=>some 0|false=>none
def zTl {α:Type} (p:α->Bool):Nat->Int->List α->Int
 |_,acc,[]=>acc
 |i,acc,a::r=>zTl p (i+1) (match p a with|true=>(i:Int)|false=>acc) r
theorem zXn {α:Type} (p:α->Bool):∀(l:List α) (i:Nat) (acc:Int),zTl p i acc l=match zFc p l with|some j=>((i+j:Nat):Int)|none=>acc
 |[],i,acc=>rfl
 |a::r,i,acc=>by
  rw[zTl,zXn p r,zFc]
  cases zFc p r with
  |some j=>simp only[];congr 1;omega
  |none=>simp only[];cases p a<;>simp
theorem zLw {α:Type} (p:α->Bool):∀(l:List α) (j:Nat),zFc p l=some j->∃x,l[j]?=some x/\p x=true
 | a::r,j,h=>by
  rw[zFc] at h
  cases hr:zFc p r with
  |some j'=>
   rw[hr] at h;cases h
   obtain⟨x,h1,h2⟩:=zLw p r j' hr
   exact⟨x,by simpa using h1,h2⟩
  | none=>
   rw[hr] at h
   cases c:p a
   ·rw[c] at h;cases h
   ·rw[c] at h;cases h
    exact⟨a,by simp,c⟩
def yUx (s:List Tbl) (cols:List Col) (acc:List Fgn) (e:Int):List FgS->Option (List Fgn×Int)
 |[]=>some (acc,e)
 |f::r=>match yXx zFc s cols f with
  |some (g,u,b)=>yUx s cols (acc++[g]) (bif yGx cols u.cols.items g.cols.items b then e else 6) r
  |none=>none
theorem zPb (cols:List Col) (hc:cols.length<4611686018427387904):∀(l:List Str) (acc r:List I64),zDz cols acc l=some r->inC cols acc->inC cols r
 |[],acc,r,h,ha=>by cases h;exact ha
 | n::t,acc,r,h,ha=>by
  rw[zDz] at h
  cases hf:fnd (λc:Col=>c.name==n) 0 cols with
  |none=>rw[hf] at h;cases h
  | some k=>
   rw[hf] at h
   refine zPb cols hc t _ r h λx hx=>?_
   rcases List.mem_append.1 hx with hx|hx
   ·exact ha x hx
   ·obtain rfl:x=iN k:=by simpa using hx
    have hk:=yCo hf
    rw[yUv (by omega)]
    exact⟨_,List.getElem?_eq_getElem hk⟩
def yOx :Option (Tbl×Int)->D
 |some (t,0)=>.tuple [zQ t,.int .i64 0]
 |some (_,e)=>.tuple [.agg [.str [],.nil,.nil,.nil,.nil],.int .i64 e]
 |none=>.tuple [.agg [.str [],.nil,.nil,.nil,.nil],.int .i64 4]
def yXb (s:List Tbl) (x:Stm):Option (Tbl×Int):=
 match zTm x.cols.items [] x.keys.items with
 |some ks=>(match yUx (s++[⟨x.name,x.cols,cn ks,yHc,x.checks⟩]) x.cols.items [] 0 x.fgns.items with
  |some (fs,e)=>some (⟨x.name,x.cols,cn ks,cn fs,x.checks⟩,e)
  |none=>none)
 |none=>none
theorem yLw (k:Nat) (b:List (List D)) (tk:List Nat) (es:List D) (y:D):∃v1 tk1 v2 tk2,zZ k ⟨b,tk⟩ (.slice (some 0) k []) es=some (v1,⟨b,tk1⟩)/\(∀m,zY m k v1=some es)/\
  zZ k ⟨b,tk1⟩ v1 [y]=some (v2,⟨b,tk2⟩)/\v2=.slice (some (tk.length+1)) k (es++[y]):=by
 cases es with
 |nil=>exact⟨.slice (some 0) k [],tk,.slice (some (tk.length+1)) k ([]++[y]),tk++[1],rfl,λm=>by simp[zY],by simp[zZ],rfl⟩
 |cons a r=>
  refine⟨.slice (some (tk.length+1)) k (a::r),tk++[(a::r).length],.slice (some (tk.length+1)) k (a::r++[y]),tk++[(a::r++[y]).length],by simp[zZ],λm=>by simp[zY],?_,rfl⟩
  simp[zZ]
theorem yZe (s:Sl Tbl) (t:Tbl) (kD:D) (hk:yBr 1 (sl 1 I) t.keys kD) (hf:t.fgns=yHc) (n:Nat) (u:Tbl) (hu:(s.items++[t])[n]?=some u) :
  ∃kR fR,(s.items.map zQ++[.agg [.str t.name,sl 6 yO t.cols,kD,.nil,sl 8 zM t.checks]])[n]?=some (.agg [.str u.name,sl 6 yO u.cols,kR,fR,sl 8 zM u.checks])/\yBr 1 (sl 1 I) u.keys kR/\zF noR fR=sl 3 yH u.fgns:=by
 rcases Nat.lt_or_ge n s.items.length with h|h
 ·rw[List.getElem?_append_left h] at hu
  refine⟨sl 1 (sl 1 I) u.keys,sl 3 yH u.fgns,?_,yBr.ofSl _ (λx=>zCu 1 x),zUx 3 _⟩
  rw[List.getElem?_append_left (by simpa using h),List.getElem?_map,hu];rfl
 ·rw[List.getElem?_append_right h] at hu
  have:n-s.items.length=0:=by
   have:=(List.getElem?_eq_some_iff.1 hu).1
   simp at this;omega
  rw[this] at hu
  have hu:t=u:=by simpa using hu
  subst hu
  refine⟨kD,.nil,?_,hk,?_⟩
  ·rw[List.getElem?_append_right (by simpa using h)]
   simp[this]
  ·rw[hf];rfl
theorem xLn (s:Sl Tbl) (x:Stm) (hx:zHs x) (hok:x.fgns.items.all fgB=true) (hs:s.items.length<=100):zA (XG GK) TT 163 [sl 5 zQ s,wL x]=some (yOx (yXb s.items x)):=by
 obtain⟨x1,x2,x3,x4,x5,x6,x7,x8,x9⟩:=hx
 refine zD T163 rfl (by simp only[go_sem]) ?_
 unfold Tryz.f163 xJt
 simp only[Option.getD_some]
 simp +decide only[go_sem,ra]
 refine gw trivial ?_
 refine lpC (T:=Nat×List (Sl I64)) [0,3,4,6,7] (λp=>[(7,.int .i64 (p.1:Int))]) (λp=>[(6,[.str x.name,sl 6 yO x.cols,zAl [] 1 (p.2.map (sl 1 I)),.nil,sl 8 zM x.checks])]) (λp=>⟨[],zIs [] (p.2.map (sl 1 I))⟩) (λp=>p.1<=x.keys.items.length/\p.2.length=p.1/\zTm x.cols.items p.2 (x.keys.items.drop p.1)=zTm x.cols.items [] x.keys.items) (λp=>x.keys.items.length-p.1) (0,[]) (by simp) ?_
 rintro ⟨k,acc⟩ ⟨hk,ha,hP⟩
 simp only at hk ha hP ⊢
 have hal:acc.length<4611686018427387904:=by omega
 have hst:zF noR (zAl [] 1 (acc.map (sl 1 I)))=sl 1 (sl 1 I) (cn acc):=(yBr.ofAcc [] acc hal λy=>zCu 1 y).strip
 by_cases h:k<x.keys.items.length
 ·obtain⟨l_y,y,g_y,w_y⟩:=elm (L:=x.keys.items) (k:=k) (by assumption) (by omega)
  rw[zCk g_y,zTm] at hP
  have hy:=x7 y (List.mem_of_getElem? g_y)
  have c1:=zHe (G:=GK) ⟨x.name,x.cols,cn acc,yHc,x.checks⟩ y (by omega)
  simp only[xQ,yPx] at c1
  have hl1:=zFv x.cols.items y.items []
  generalize zDz x.cols.items [] y.items=o1 at *
  cases o1 with
  |none=>
   simp only[zQh] at c1 hP
   refine gw (an5 l_y g_y w_y hst c1) ?_
   simp +decide only[go_sem]
   simp only[yXb,<-hP,yOx]
  |some l=>
   have hll:=hl1 l rfl
   simp only[zQh] at c1 hP
   rw[qF 1 I (by simp at hll;omega)] at c1
   have hle:((acc.map (sl 1 I)).length+1<=16777216)=True:=eq_true (by rw[List.length_map];omega)
   refine gw (an6 l_y g_y w_y hst c1 hle) ?_
   refine⟨(k+1,acc++[cn l]),?_,⟨by simp only;omega,by simp[ha],hP⟩,by simp only;omega⟩
   rw[List.map_append]
   exact by simp +decide only[go_sem]<;>rfl
 have l_e1:((k:Int)<((x.keys.items).length:Int))=False:=by simp;omega
 rw[List.drop_eq_nil_of_le (by omega),zTm] at hP
 have hkeys:zTm x.cols.items [] x.keys.items=some acc:=hP.symm
 have hklike:yBr 1 (sl 1 I) (cn acc) (zAl [] 1 (acc.map (sl 1 I))):=yBr.ofAcc [] acc hal λy=>zCu 1 y
 obtain⟨v1,tk1,v2,tk2,hv1,he1,hv2,ev2⟩:=yLw 5 [] (zIs [] (acc.map (sl 1 I))) (s.items.map zQ) (.agg [.str x.name,sl 6 yO x.cols,zAl [] 1 (acc.map (sl 1 I)),.nil,sl 8 zM x.checks])
 have hle1:((s.items.map zQ).length<=16777216)=True:=eq_true (by rw[List.length_map];omega)
 have hle2:((s.items.map zQ).length+1<=16777216)=True:=eq_true (by rw[List.length_map];omega)
 have hSl:(s.items++[(⟨x.name,x.cols,cn acc,yHc,x.checks⟩:Tbl)]).length<4611686018427387904:=by simp;omega
 generalize hall:s.items++[(⟨x.name,x.cols,cn acc,yHc,x.checks⟩:Tbl)]=all at *
 have hv2s:zF noR v2=sl 5 zQ (yPc (some all) hSl):=by
  rw[ev2]
  show D.slice none 5 (zC noR _)=D.slice none 5 (all.map zQ)
  rw[vJ,zL zQ λt=>zKq t,<-hall,List.map_append]
  congr 2
  show [zF noR _]=_
  simp only[xQ,zDv,zR,hklike.strip,go_sem]
 have hitems:(yPc (some all) hSl:Sl Tbl).items=all:=rfl
 rw[yXb,hkeys]
 simp only[hall]
 refine gw (an8 l_e1 hst hv1 he1 hv2 hle1 hle2 hv2s) ?_
 refine lpC (T:=Nat×List Fgn×Int) [3,4,6,10,11,12] (λp=>[(12,.int .i64 (p.1:Int)),(11,.int .i64 p.2.2)]) (λp=>[(6,[.str x.name,sl 6 yO x.cols,zAl [] 1 (acc.map (sl 1 I)),zAl tk2 3 (p.2.1.map yH),sl 8 zM x.checks])]) (λp=>⟨[],zIs tk2 (p.2.1.map yH)⟩) (λp=>p.1<=x.fgns.items.length/\p.2.1.length=p.1/\yUx all x.cols.items p.2.1 p.2.2 (x.fgns.items.drop p.1)=yUx all x.cols.items [] 0 x.fgns.items) (λp=>x.fgns.items.length-p.1) (0,[],0) (by simp) ?_
 rintro ⟨k2,fs,e⟩ ⟨hk2,hfs,hQ⟩
 simp only at hk2 hfs hQ ⊢
 have hfl:fs.length<4611686018427387904:=by omega
 have hst3:zF noR (zAl tk2 3 (fs.map yH))=sl 3 yH (cn fs):=(yBr.ofAcc tk2 fs hfl λy=>zKr y).strip
 by_cases h2:k2<x.fgns.items.length
 ·obtain⟨l_y,y,g_y,w_y⟩:=elm (L:=x.fgns.items) (k:=k2) (by assumption) (by omega)
  rw[zCk g_y,yUx] at hQ
  have hy:=x8 y (List.mem_of_getElem? g_y)
  have hyok:fgB y=true:=List.all_eq_true.1 hok y (List.mem_of_getElem? g_y)
  have c1:=zHe (G:=GK) ⟨x.name,x.cols,cn acc,cn fs,x.checks⟩ y.cols (by omega)
  have c2:=yNq (G:=GK) (yPc (some all) hSl) y.table
  simp only[xQ] at c1
  rw[hitems] at c2
  unfold yXx at hQ
  have hl1:=zFv x.cols.items y.cols.items []
  have hi1:=zPb x.cols.items x.cols.lt y.cols.items []
  generalize zDz x.cols.items [] y.cols.items=o1 at *
  have fl:=@yCo _ (λt:Tbl=>t.name==y.table) all
  generalize fnd (λt:Tbl=>t.name==y.table) 0 all=o2 at *
  cases o1 with
  | none=>
   simp only[zQh] at c1 hQ
   cases o2 with
   |none=>
    simp only[yHf] at c2
    refine gw (an9 l_e1 hst hv1 he1 hv2 hle1 hle2 hv2s (an6 hst3 l_y g_y w_y c1 c2)) ?_
    simp +decide only[go_sem]
    rw[<-hQ];rfl
   |some n=>
    simp only[yHf] at c2
    refine gw (an9 l_e1 hst hv1 he1 hv2 hle1 hle2 hv2s (an6 hst3 l_y g_y w_y c1 c2)) ?_
    simp +decide only[go_sem]
    rw[<-hQ];rfl
  | some a=>
   have ha1:=hl1 a rfl
   have hal1:a.length<4611686018427387904:=by simp at ha1;omega
   simp only[zQh] at c1
   rw[qF 1 I hal1] at c1
   cases o2 with
   |none=>
    simp only[yHf] at c2 hQ
    refine gw (an9 l_e1 hst hv1 he1 hv2 hle1 hle2 hv2s (an6 hst3 l_y g_y w_y c1 c2)) ?_
    simp +decide only[go_sem]
    rw[<-hQ];rfl
   | some n=>
    have fl:=fl rfl
    simp only[yHf] at c2 hQ
    obtain⟨u,hu⟩:∃u,all[n]?=some u:=⟨_,List.getElem?_eq_getElem fl⟩
    obtain⟨kR,fR,hraw,hkR,hfR⟩:=yZe s ⟨x.name,x.cols,cn acc,yHc,x.checks⟩ (zAl [] 1 (acc.map (sl 1 I))) hklike rfl n u (hall▸hu)
    have hidx:zQf Tryz.prog 23 v2 (.int .i64 (n:Int))=some (.ref [.str u.name,sl 6 yO u.cols,kR,fR,sl 8 zM u.checks] 0):=by
     rw[ev2,qO,yIu]
     simp only[decide_true,cond_true,atI,hraw]
     rfl
    have c3:=zHe (G:=GK) u y.refs (by omega)
    simp only[xQ] at c3
    simp only[hu] at hQ
    have hl2:=zFv u.cols.items y.refs.items []
    have hi2:=zPb u.cols.items u.cols.lt y.refs.items []
    generalize zDz u.cols.items [] y.refs.items=o3 at *
    have zq1:=hkR.strip
    have zq2:=hkR.ok
    have zq3:=hkR.cells
    have zq4:=hkR.len
    have zq5:=hkR.idx
    cases o3 with
    | none=>
     simp only[zQh] at c3 hQ
     refine gw (an9 l_e1 hst hv1 he1 hv2 hle1 hle2 hv2s (an9 hst3 l_y g_y w_y c1 c2 hidx zq1 (an6 hfR zq2 zq3 zq4 zq5 c3))) ?_
     refine lpC (T:=Nat) [3,4,6,10,11,12,14,16,18,19,20,21] (λq=>[(21,.int .i64 (q:Int))]) (λ_=>[]) (λ_=>⟨[],zIs tk2 (fs.map yH)⟩) (λq=>q<=u.keys.items.length) (λq=>u.keys.items.length-q) 0 (by simp) ?_
     rintro q hq
     have hkl:=u.keys.lt
     by_cases h3:q<u.keys.items.length
     ·obtain⟨l_z,z,g_z,w_z⟩:=elm (L:=u.keys.items) (k:=q) (by assumption) (by omega)
      refine gw (an9 l_e1 hst hv1 he1 hv2 hle1 hle2 hv2s (an9 hst3 l_y g_y w_y c1 c2 hidx zq1 (an9 hfR zq2 zq3 zq4 zq5 c3 l_z g_z w_z))) ?_
      exact⟨(q+1),by simp +decide only[go_sem]<;>rfl,by omega,by omega⟩
     ·have l_z:((q:Int)<((u.keys.items).length:Int))=False:=by simp;omega
      refine gw (an9 l_e1 hst hv1 he1 hv2 hle1 hle2 hv2s (an9 hst3 l_y g_y w_y c1 c2 hidx zq1 (an7 hfR zq2 zq3 zq4 zq5 c3 l_z))) ?_
      simp +decide only[go_sem]
      rw[<-hQ];rfl
    | some b=>
     have hb1:=hl2 b rfl
     have hbl:b.length<4611686018427387904:=by simp at hb1;omega
     simp only[zQh] at c3
     rw[qF 1 I hbl] at c3
     dsimp only at hQ
     refine gw (an9 l_e1 hst hv1 he1 hv2 hle1 hle2 hv2s (an9 hst3 l_y g_y w_y c1 c2 hidx zq1 (an6 hfR zq2 zq3 zq4 zq5 c3))) ?_
     refine lpC (T:=Nat×Int) [3,4,6,10,11,12,14,16,18,19,20,21] (λq=>[(21,.int .i64 (q.1:Int)),(20,.int .i64 q.2)]) (λ_=>[]) (λ_=>⟨[],zIs tk2 (fs.map yH)⟩) (λq=>q.1<=u.keys.items.length/\zTl (λk=>eqI k.items b) q.1 q.2 (u.keys.items.drop q.1)=zTl (λk=>eqI k.items b) 0 (-1) u.keys.items) (λq=>u.keys.items.length-q.1) (0,-1) (by simp) ?_
     rintro ⟨q,key⟩ ⟨hq,hR⟩
     simp only at hq hR ⊢
     have hkl:=u.keys.lt
     by_cases h3:q<u.keys.items.length
     ·obtain⟨l_z,z,g_z,w_z⟩:=elm (L:=u.keys.items) (k:=q) (by assumption) (by omega)
      have c4:=xAc (G:=GK) z (cn b)
      rw[yR hbl] at c4
      rw[zCk g_z,zTl] at hR
      cases c:(eqI z.items b)
      ·refine gw (an9 l_e1 hst hv1 he1 hv2 hle1 hle2 hv2s (an9 hst3 l_y g_y w_y c1 c2 hidx zq1 (an9 hfR zq2 zq3 zq4 zq5 c3 l_z g_z (an3 w_z c4 c)))) ?_
       rw[c] at hR
       exact⟨(q+1,key),by simp +decide only[go_sem]<;>rfl,⟨by simp only;omega,hR⟩,by simp only;omega⟩
      ·refine gw (an9 l_e1 hst hv1 he1 hv2 hle1 hle2 hv2s (an9 hst3 l_y g_y w_y c1 c2 hidx zq1 (an9 hfR zq2 zq3 zq4 zq5 c3 l_z g_z (an3 w_z c4 c)))) ?_
       rw[c] at hR
       exact⟨(q+1,(q:Int)),by simp +decide only[go_sem]<;>rfl,⟨by simp only;omega,hR⟩,by simp only;omega⟩
     have l_z:((q:Int)<((u.keys.items).length:Int))=False:=by simp;omega
     rw[List.drop_eq_nil_of_le (by omega),zTl,zXn] at hR
     have lsm:=zLw (λk:Sl I64=>eqI k.items b) u.keys.items
     generalize zFc (λk:Sl I64=>eqI k.items b) u.keys.items=o4 at *
     cases o4 with
     |none=>
      have hR:key = -1:=hR
      subst hR
      refine gw (an9 l_e1 hst hv1 he1 hv2 hle1 hle2 hv2s (an9 hst3 l_y g_y w_y c1 c2 hidx zq1 (an7 hfR zq2 zq3 zq4 zq5 c3 l_z))) ?_
      simp +decide only[go_sem]
      rw[<-hQ];rfl
     | some j=>
      obtain⟨kz,hkz,_⟩:=lsm j rfl
      have hjl:=(List.getElem?_eq_some_iff.1 hkz).1
      have hR:key=((0+j:Nat):Int):=hR
      rw[Nat.zero_add] at hR
      subst hR
      have hj0:((j:Int)<0)=False:=eq_false (by omega)
      have hinA:inC x.cols.items (cn a).items:=by rw[yR hal1];exact hi1 a rfl λz hz=>by cases hz
      have hinB:inC u.cols.items (cn b).items:=by rw[yR hbl];exact hi2 b rfl λz hz=>by cases hz
      have hab:(cn a).items.length<=(cn b).items.length:=by
       rw[yR hal1,yR hbl]
       simp only[fgB,Bool.and_eq_true,beq_iff_eq] at hyok
       have:=hyok.2
       simp at ha1 hb1;omega
      have c5:=yIr (G:=GK) ⟨x.name,x.cols,cn acc,cn fs,x.checks⟩ u (cn a) (cn b) hab hinA hinB
      rw[yR hal1,yR hbl] at c5
      simp only[xQ] at c5
      dsimp only at hQ
      rw[yR hal1] at hQ
      have hle3:((fs.map yH).length+1<=16777216)=True:=eq_true (by rw[List.length_map];omega)
      have hfin:zAl tk2 3 ((fs++[(⟨cn a,iN n,iN j⟩:Fgn)]).map yH)=zAl tk2 3 (fs.map yH++[.agg [sl 1 I (cn a),.int .i64 (n:Int),.int .i64 (j:Int)]]):=by
       rw[List.map_append]
       show zAl tk2 3 (_++[yH _])=_
       rw[yH,yUv (show n<4611686018427387904 by have:=(List.getElem?_eq_some_iff.1 hu).1;omega),yUv (show j<4611686018427387904 by omega)]
      have hfin2:zIs tk2 ((fs++[(⟨cn a,iN n,iN j⟩:Fgn)]).map yH)=zIs tk2 (fs.map yH++[.agg [sl 1 I (cn a),.int .i64 (n:Int),.int .i64 (j:Int)]]):=by
       rw[List.map_append]
       show zIs tk2 (_++[yH _])=_
       rw[yH,yUv (show n<4611686018427387904 by have:=(List.getElem?_eq_some_iff.1 hu).1;omega),yUv (show j<4611686018427387904 by omega)]
      cases ty:(yGx x.cols.items u.cols.items a b)
      ·refine gw (an9 l_e1 hst hv1 he1 hv2 hle1 hle2 hv2s (an9 hst3 l_y g_y w_y c1 c2 hidx zq1 (an9 hfR zq2 zq3 zq4 zq5 c3 l_z hj0 (an3 c5 hle3 ty)))) ?_
       rw[ty,cond_false] at hQ
       refine⟨(k2+1,fs++[⟨cn a,iN n,iN j⟩],6),?_,⟨by simp only;omega,by simp[hfs],hQ⟩,by simp only;omega⟩
       rw[hfin,hfin2]
       exact by simp +decide only[go_sem]<;>rfl
      ·refine gw (an9 l_e1 hst hv1 he1 hv2 hle1 hle2 hv2s (an9 hst3 l_y g_y w_y c1 c2 hidx zq1 (an9 hfR zq2 zq3 zq4 zq5 c3 l_z hj0 (an3 c5 hle3 ty)))) ?_
       rw[ty,cond_true] at hQ
       refine⟨(k2+1,fs++[⟨cn a,iN n,iN j⟩],e),?_,⟨by simp only;omega,by simp[hfs],hQ⟩,by simp only;omega⟩
       rw[hfin,hfin2]
       exact by simp +decide only[go_sem]<;>rfl
 ·have l_y:((k2:Int)<((x.fgns.items).length:Int))=False:=by simp;omega
  rw[List.drop_eq_nil_of_le (by omega),yUx] at hQ
  rw[<-hQ]
  by_cases he:e=0
  ·subst he
   have hs1:∀g,zF g (zAl [] 1 (acc.map (sl 1 I)))=sl 1 (sl 1 I) (cn acc):=λg=>by rw[qM (zL _ (λy=>zCu 1 y) _),qF _ _ hal]
   have hs3:∀g,zF g (zAl tk2 3 (fs.map yH))=sl 3 yH (cn fs):=λg=>by rw[qM (zL _ (λy=>zKr y) _),qF _ _ hfl]
   refine gw (an9 l_e1 hst hv1 he1 hv2 hle1 hle2 hv2s (an hst3 l_y)) ?_
   simp +decide only[go_sem,ra,hs1,hs3]
   rfl
  ·have he':=yXi he
   refine gw (an9 l_e1 hst hv1 he1 hv2 hle1 hle2 hv2s (an3 hst3 l_y he')) ?_
   simp +decide only[go_sem]
   unfold yOx
   split
   ·rename_i h;cases h;exact absurd rfl he
   ·rename_i h;cases h;rfl
   ·rename_i h;cases h
end Go.Eng
namespace Go.Eng
open Go Go.Proofs
def zHn (cols:List Col) (x:I64):Str:=match atI cols x.1 with|some c=>c.name|none=>[]
def inB (n:Nat) (c:I64):Bool:=decide (0<=c.1)&&decide (c.1<(n:Int))
theorem yCr {α:Type} {l:List α} {n:Int} (h0:0<=n) (h1:n<(l.length:Int)):∃a,atI l n=some a:=by
 obtain⟨k,rfl⟩:∃k:Nat,n=k:=⟨n.toNat,by omega⟩
 exact⟨_,List.getElem?_eq_getElem (l:=l) (i:=k) (by omega)⟩
theorem at1 {α:Type} (g:List α) (a:α) (r:List α):(g++[a]++r)[g.length]?=some a:=by simp
end Go.Eng
namespace Go.Eng
open Go Go.Proofs
open Nat renaming reduceAdd → ra, reduceMul → rb, reduceSub → rc
set_option maxRecDepth 20000
set_option maxHeartbeats 32000000
attribute [local irreducible] wpI xU
def zYx (s:List Tbl) (x:Stm):Except Int Tbl:=
 bif x.kind.1 != 1 then .error 1 else bif decide (8<=s.length)||xSo x then .error 3 else bif okB x then(bif exB s x then .error 5 else
  match yXb s x with
  |some (t,e)=>(match e==0 with|true=>.ok t|false=>.error e)
  |none=>.error 4) else .error 1
def yMp (step:List Tbl->Stm->Except Int Tbl) (s:List Tbl):List Stm->Except (Nat×Int) (List Tbl)
 |[]=>.ok s
 |x::r=>match step s x with
  |.ok t=>yMp step (s++[t]) r
  |.error e=>.error (s.length,e)
def xHu :Except (Nat×Int) (List Tbl)->D
 |.ok s=>.tuple [sl 5 zQ (cn s),.int .i64 0,.int .i64 0]
 |.error (i,e)=>.tuple [.nil,.int .i64 (i:Int),.int .i64 e]
theorem xPn (l:Sl Stm) (hn:l.items.length<=12) (hl:∀x∈l.items,zHs x):zA (XG GK) TT 102 [sl 22 wL l]=some (xHu (yMp zYx [] l.items)):=by
 refine zD T102 rfl (by simp only[go_sem]) ?_
 unfold Tryz.f102 xLi
 simp only[Option.getD_some]
 simp +decide only[go_sem]
 refine gw trivial ?_
 refine lpC (T:=Nat×List Tbl) [0,5,6] (λp=>[(6,.int .i64 (p.1:Int)),(5,zAl [] 5 (p.2.map zQ))]) (λ_=>[]) (λp=>⟨[],zIs [] (p.2.map zQ)⟩) (λp=>p.1<=l.items.length/\p.2.length=p.1/\yMp zYx p.2 (l.items.drop p.1)=yMp zYx [] l.items) (λp=>l.items.length-p.1) (0,[]) (by simp) ?_
 rintro ⟨k,s⟩ ⟨hk,hs,hP⟩
 simp only at hk hs hP ⊢
 have hsl:s.length<4611686018427387904:=by omega
 have hst:∀g,zF g (zAl [] 5 (s.map zQ))=sl 5 zQ (cn s):=λg=>by rw[qM (zL _ (λy=>zKq y) _),qF _ _ hsl]
 have n1:((1:Int) != 0)=true:=rfl
 have n3:((3:Int) != 0)=true:=rfl
 have n4:((4:Int) != 0)=true:=rfl
 have n5:((5:Int) != 0)=true:=rfl
 by_cases h:k<l.items.length
 ·have hlt:=l.lt
  obtain⟨l_x,x,g_x,w_x⟩:=elm (L:=l.items) (k:=k) (by assumption) (by omega)
  rw[zCk g_x,yMp,zYx] at hP
  have hx:=hl x (List.mem_of_getElem? g_x)
  have c57:=xPa x hx
  have c58:=xVf (cn s) x hx
  rw[yR hsl] at c58
  simp only[zGa] at c57 c58
  have htk:List.take 16 x.rest.1=x.rest.1:=List.take_of_length_le (by rw[zXa];exact Nat.le_refl _)
  cases b1:(x.kind.1 != 1)
  ·rw [b1,cond_false] at hP
   by_cases b2:(8:Int)<=(k:Int)
   ·rw[decide_eq_true (show 8<=s.length by omega),Bool.true_or,cond_true] at hP
    refine gw (an9 hst n1 n3 n4 n5 l_x g_x w_x (an5 c57 c58 htk b1 b2)) ?_
    simp +decide only[go_sem]
    rw[<-hP,hs];rfl
   rw[decide_eq_false (show ¬8<=s.length by omega),Bool.false_or,xSo] at hP
   by_cases b3:(8:Int)<(x.cols.items.length:Int)
   ·rw[decide_eq_true (show 8<x.cols.items.length by omega),Bool.true_or,cond_true] at hP
    refine gw (an9 hst n1 n3 n4 n5 l_x g_x w_x (an6 c57 c58 htk b1 b2 b3)) ?_
    simp +decide only[go_sem]
    rw[<-hP,hs];rfl
   rw[decide_eq_false (show ¬8<x.cols.items.length by omega),Bool.false_or] at hP
   by_cases b4:(4:Int)<(x.keys.items.length:Int)
   ·rw[decide_eq_true (show 4<x.keys.items.length by omega),Bool.true_or,cond_true] at hP
    refine gw (an9 hst n1 n3 n4 n5 l_x g_x w_x (an7 c57 c58 htk b1 b2 b3 b4)) ?_
    simp +decide only[go_sem]
    rw[<-hP,hs];rfl
   rw[decide_eq_false (show ¬4<x.keys.items.length by omega),Bool.false_or] at hP
   by_cases b5:(4:Int)<(x.fgns.items.length:Int)
   ·rw[decide_eq_true (show 4<x.fgns.items.length by omega),Bool.true_or,cond_true] at hP
    refine gw (an9 hst n1 n3 n4 n5 l_x g_x w_x (an8 c57 c58 htk b1 b2 b3 b4 b5)) ?_
    simp +decide only[go_sem]
    rw[<-hP,hs];rfl
   rw[decide_eq_false (show ¬4<x.fgns.items.length by omega),Bool.false_or] at hP
   by_cases b6:(4:Int)<(x.checks.items.length:Int)
   ·rw[decide_eq_true (show 4<x.checks.items.length by omega),cond_true] at hP
    refine gw (an9 hst n1 n3 n4 n5 l_x g_x w_x (an9 c57 c58 htk b1 b2 b3 b4 b5 b6)) ?_
    simp +decide only[go_sem]
    rw[<-hP,hs];rfl
   rw[decide_eq_false (show ¬4<x.checks.items.length by omega),cond_false] at hP
   cases b7:(okB x)
   ·rw[b7,cond_false] at hP
    simp only[b7,Bool.not_false] at c57
    refine gw (an9 hst n1 n3 n4 n5 l_x g_x w_x (an9 c57 c58 htk b1 b2 b3 b4 b5 (an b6 b7))) ?_
    simp +decide only[go_sem]
    rw[<-hP,hs];rfl
   rw[b7,cond_true] at hP
   simp only[b7,Bool.not_true] at c57
   cases b8:(exB s x)
   ·rw [b8,cond_false] at hP
    have hok:x.fgns.items.all fgB=true:=by
     simp only[okB,Bool.and_eq_true] at b7;exact b7.2.2.2.2
    have c59:=xLn (cn s) x hx hok (by rw[yR hsl];omega)
    rw[yR hsl] at c59
    simp only[zGa] at c59
    generalize yXb s x=o at *
    cases o with
    |none=>
     simp only[yOx] at c59
     refine gw (an9 hst n1 n3 n4 n5 l_x g_x w_x (an9 c57 c58 htk b1 b2 b3 b4 b5 (an4 b6 b7 b8 c59))) ?_
     simp +decide only[go_sem]
     rw[<-hP,hs];rfl
    | some te=>
     obtain⟨t,e⟩:=te
     dsimp only at hP
     by_cases he:e=0
     ·subst he
      simp only[yOx,xQ] at c59
      have hle:((s.map zQ).length+1<=16777216)=True:=eq_true (by rw[List.length_map];omega)
      refine gw (an9 hst n1 n3 n4 n5 l_x g_x w_x (an9 c57 c58 htk b1 b2 b3 b4 b5 (an5 b6 b7 b8 c59 hle))) ?_
      refine⟨(k+1,s++[t]),?_,⟨by simp only;omega,by simp[hs],hP⟩,by simp only;omega⟩
      rw[List.map_append,List.map_cons,List.map_nil,xQ]
      exact by simp +decide only[go_sem]<;>rfl
     ·have he2:=yXi he
      have hT:yOx (some (t,e))=.tuple [.agg [.str [],.nil,.nil,.nil,.nil],.int .i64 e]:=by
       unfold yOx
       split
       ·rename_i h;cases h;exact absurd rfl he
       ·rename_i h;cases h;rfl
       ·rename_i h;cases h
      rw[hT] at c59
      refine gw (an9 hst n1 n3 n4 n5 l_x g_x w_x (an9 c57 c58 htk b1 b2 b3 b4 b5 (an5 b6 b7 b8 c59 he2))) ?_
      simp +decide only[go_sem]
      rw[xVi he] at hP
      rw[<-hP,hs];rfl
   ·rw[b8,cond_true] at hP
    refine gw (an9 hst n1 n3 n4 n5 l_x g_x w_x (an9 c57 c58 htk b1 b2 b3 b4 b5 (an3 b6 b7 b8))) ?_
    simp +decide only[go_sem]
    rw[<-hP,hs];rfl
  ·rw[b1,cond_true] at hP
   refine gw (an9 hst n1 n3 n4 n5 l_x g_x w_x (an4 c57 c58 htk b1)) ?_
   simp +decide only[go_sem]
   rw[<-hP,hs];rfl
 ·have l_x:((k:Int)<((l.items).length:Int))=False:=by simp;omega
  rw[List.drop_eq_nil_of_le (by omega),yMp] at hP
  refine gw (an6 hst n1 n3 n4 n5 l_x) ?_
  simp +decide only[go_sem,hst]
  rw[<-hP];rfl
end Go.Eng
