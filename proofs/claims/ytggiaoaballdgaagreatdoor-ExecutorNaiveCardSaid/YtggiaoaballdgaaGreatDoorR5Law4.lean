/- A part of the proof: see the last text. -/
import Derived.Test.YtggiaoaballdgaaGreatDoorR5Nai
import Derived.Test.YtggiaoaballdgaaGreatDoorJ40
import Derived.Test.YtggiaoaballdgaaGreatDoorJ41
import Derived.Test.YtggiaoaballdgaaGreatDoorJ43
import Derived.Test.YtggiaoaballdgaaGreatDoorJ27
set_option linter.unusedSimpArgs false
set_option linter.unusedVariables false
namespace Go.Eng
open Go Go.Proofs
open Nat renaming reduceAdd → ra, reduceMul → rb, reduceSub → rc
set_option maxRecDepth 20000
set_option maxHeartbeats 32000000
attribute [local irreducible] wpI xU
theorem yIw {a b:List Int} {r q:List Val} (h:zIj a r) (k:zIj b q):zIj (a++b) (r++q):=by
 refine⟨by rw[List.length_append,List.length_append,h.len,k.len],λi v t h1 h2=>?_⟩
 by_cases hi:i<r.length
 ·rw[List.getElem?_append_left hi] at h1
  rw[List.getElem?_append_left (by rw[<-h.len];exact hi)] at h2
  exact h.ok i v t h1 h2
 ·rw[List.getElem?_append_right (by omega)] at h1
  rw[List.getElem?_append_right (by rw[<-h.len];omega),<-h.len] at h2
  exact k.ok _ v t h1 h2
theorem zYg :∀(S:List (List (List Val))) (T:List (List Int)) (f:List Val) (lf:List Int),S.length=T.length->(∀(k:Nat) (rs:List (List Val)) (t:List Int),S[k]?=some rs->T[k]?=some t->∀r∈rs,zIj t r)->zIj lf f->∀x∈zAq S f,zIj (lf++T.flatten) x
 |[],T,f,lf,hl,_,hf,x,hx=>by
  have:T=[]:=List.eq_nil_of_length_eq_zero hl.symm
  subst this
  rw[zAq,List.mem_singleton] at hx
  subst hx;simpa using hf
 |rs::S,[],_,_,hl,_,_,_,_=>by simp at hl
 |rs::S,t::T,f,lf,hl,h,hf,x,hx=>by
  obtain⟨r,hr,hx⟩:=List.mem_flatMap.1 hx
  have h1:=yIw hf (h 0 rs t rfl rfl r hr)
  have:=zYg S T (f++r) (lf++t) (by simpa using hl) (λk rs' t' a b=>h (k+1) rs' t' (by simpa using a) (by simpa using b)) h1 x hx
  rw[List.flatten_cons,<-List.append_assoc];exact this
theorem yCy {l:List Int} {r:List Val} (h:zIj l r):yBl r:=by
 intro v hv
 obtain⟨i,hi,e⟩:=List.mem_iff_getElem.1 hv
 have h1:r[i]?=some v:=by rw[<-e];exact List.getElem?_eq_getElem hi
 obtain⟨t,ht⟩:∃t,l[i]?=some t:=⟨_,List.getElem?_eq_getElem (by rw[<-h.len];exact hi)⟩
 cases h.ok i v t h1 ht with
 |nul=>show ([]:Str).length<_;decide
 |int=>show ([]:Str).length<_;decide
 |txt s _ hl=>show s.length<_;omega
def zTc (s:List Tbl) (l:List I64):List Tbl:=l.map λx=>(s[x.1.toNat]?).getD ⟨[],⟨none,by simp⟩,⟨none,by simp⟩,⟨none,by simp⟩,⟨none,by simp⟩⟩
theorem yCu (c:Cas) (h:∀(i:Nat) (x:I64),c.fr.items[i]?=some x->∃t,atI c.s.items x.1=some t):∀k,k<=c.fr.items.length->yBk c k=((zTc c.s.items c.fr.items).take k).flatMap λt=>t.cols.items
 |0,_=>rfl
 | k+1,hk=>by
  obtain⟨x,hx⟩:∃x,c.fr.items[k]?=some x:=⟨_,List.getElem?_eq_getElem (by omega)⟩
  obtain⟨t,ht⟩:=h k x hx
  rw[zQq hx ht,yCu c h k (by omega),List.take_add_one]
  have hxt:(zTc c.s.items c.fr.items)[k]?=some t:=by
   obtain⟨i,hi,e⟩:=zFo ht
   unfold zTc
   rw[List.getElem?_map,hx]
   simp only[Option.map_some]
   rw[show x.1.toNat=i by omega,e];rfl
  rw[hxt,List.flatMap_append]
  simp
structure yNz (s:List Tbl) (data:List Rows) (l:List I64):Prop where
 at_:∀(k:Nat) (x:I64),l[k]?=some x->∃(i:Nat) (t:Tbl) (rs:Rows),x.1=(i:Int)/\s[i]?=some t/\data[i]?=some rs/\(zTc s l)[k]?=some t/\(xZ data l)[k]?=some (rs.items.map Sl.items)/\(qH (data.map Sl.items) l)[k]?=some rs.items
theorem yRg {s:List Tbl} {data:List Rows} {l:List I64} (hlen:data.length=s.length) (h:∀(k:Nat) (x:I64),l[k]?=some x->∃t,atI s x.1=some t):yNz s data l:=⟨λk x hx=>by
 obtain⟨t,ht⟩:=h k x hx
 obtain⟨i,hi,e⟩:=zFo ht
 obtain⟨rs,hrs⟩:∃rs,data[i]?=some rs:=⟨_,List.getElem?_eq_getElem (by have:=(List.getElem?_eq_some_iff.1 e).1;omega)⟩
 have hn:x.1.toNat=i:=by omega
 refine⟨i,t,rs,by omega,e,hrs,?_,?_,?_⟩
 ·unfold zTc;rw[List.getElem?_map,hx];simp only[Option.map_some,hn,e,Option.getD_some]
 ·unfold xZ;rw[List.getElem?_map,hx];simp only[Option.map_some,hn,hrs]
 ·unfold qH;rw[List.getElem?_map,hx];simp only[Option.map_some,hn,List.getElem?_map,hrs,Option.getD_some]⟩
theorem yKe {s:List Tbl} {data:List Rows} {l:List I64} (h:yNz s data l):(qH (data.map Sl.items) l).map (λrs=>rs.map Sl.items)=xZ data l:=by
 refine List.ext_getElem? λk=>?_
 rw[List.getElem?_map]
 cases hx:l[k]? with
 |none=>
  have h1:l.length<=k:=List.getElem?_eq_none_iff.1 hx
  rw[List.getElem?_eq_none (by simp[qH];exact h1),List.getElem?_eq_none (by simp[xZ];exact h1)];rfl
 |some x=>
  obtain⟨i,t,rs,_,_,_,_,h2,h3⟩:=h.at_ k x hx
  rw[h2,h3];rfl
theorem yDb {α:Type}:∀{A:List α} {B:List Nat} {f:α->Nat},A.length=B.length->(∀(k:Nat) (a:α) (b:Nat),A[k]?=some a->B[k]?=some b->f a=b)->(A.map f).sum=B.sum
 |[],[],_,_,_=>rfl
 |[],_::_,_,h,_=>by simp at h
 |_::_,[],_,h,_=>by simp at h
 |a::A,b::B,f,hl,h=>by
  rw[List.map_cons,List.sum_cons,List.sum_cons,h 0 a b rfl rfl,yDb (f:=f) (by simpa using hl) λk a' b' x y=>h (k+1) a' b' (by simpa using x) (by simpa using y)]
theorem zEs {α β:Type} (f:α->List β):∀l:List α,(l.flatMap f).length=(l.map λx=>(f x).length).sum
 |[]=>rfl
 |a::l=>by rw[List.flatMap_cons,List.length_append,zEs f l];simp
theorem yIv (l:List Tbl):tyL (l.flatMap λt=>t.cols.items)=(l.map λt=>tyL t.cols.items).flatten:=by
 unfold tyL
 rw[List.map_flatMap,List.flatMap_def]
def EqQ (data:Sl Rows) (b:Bnd) (st:D):Prop:=∃Q:List (List Val),zA (XG GK) TT 16 [st,yL b]=some (wW 1 (Q.map rv))/\zA (XG GK) TT 15 [yL b,qI data]=some (wW 1 (Q.map rv))/\Q.length<=1000/\∀r∈Q,r.length<=100000
theorem xVg (c:Cas) (data:Sl Rows) (b:Bnd) (st:D) (W:List Nat) (hW:WOK c.s.items c.fr.items W) (htabs:b.tabs.items=c.fr.items) (hne:c.fr.items≠[]) (hvars:b.vars=cn (yBk c c.fr.items.length)) (hs12:c.s.items.length<=12) (h20:∀t∈c.s.items,t.cols.items.length<=20) (hR:zUo c.s.items b data.items)
  (hst:zQp st (data.items.map Sl.items)) (hrn:∀rs∈data.items,∀r∈rs.items,r.items≠[]):EqQ data b st:=by
 have hat:∀(k:Nat) (x:I64),c.fr.items[k]?=some x->∃t,atI c.s.items x.1=some t:=λk x hx=>by
  obtain⟨t,h1,_⟩:=hW.src k x hx;exact⟨t,h1⟩
 have J:=yRg hR.len hat
 have hin:∀rs∈data.items,∃(i:Nat) (t:Tbl),data.items[i]?=some rs/\c.s.items[i]?=some t:=λrs hrs=>by
  obtain⟨i,hi,e⟩:=List.mem_iff_getElem.1 hrs
  exact⟨i,_,by rw[<-e];exact List.getElem?_eq_getElem hi,List.getElem?_eq_getElem (by rw[<-hR.len];exact hi)⟩
 have hrow:∀rs∈data.items,∀r∈rs.items,r.items.length<=20/\yBl r.items:=λrs hrs r hr=>by
  obtain⟨i,t,h1,h2⟩:=hin rs hrs
  have ht:=hR.row i t rs h2 h1 r hr
  have h3:=h20 t (List.mem_of_getElem? h2)
  have h4:=ht.len
  rw[tyL,List.length_map] at h4
  exact⟨by omega,yCy ht⟩
 have hf:yXk data.items:=⟨hR.few,λrs h r hr=>by have:=(hrow rs h r hr).1;omega,λrs h r hr=>(hrow rs h r hr).2⟩
 have hfew:=hW.few
 have htin:yCe data.items b.tabs.items:=λx hx=>by
  rw[htabs] at hx
  obtain⟨k,hk,e⟩:=List.mem_iff_getElem.1 hx
  obtain⟨i,t,rs,h1,_,h3,_⟩:=J.at_ k x (by rw[<-e];exact List.getElem?_eq_getElem hk)
  exact⟨i,h1,(List.getElem?_eq_some_iff.1 h3).1⟩
 have hlenr:∀(k:Nat) (rs':List (Sl Val)),(qH (data.items.map Sl.items) b.tabs.items)[k]?=some rs'->∃t,(zTc c.s.items c.fr.items)[k]?=some t/\∀r∈rs',zIj (tyL t.cols.items) r.items:=λk rs' h=>by
  have hk:k<c.fr.items.length:=by
   have:=(List.getElem?_eq_some_iff.1 h).1
   simp[qH] at this
   rw[htabs] at this;exact this
  obtain⟨i,t,rs,h1,h2,h3,h4,h5,h6⟩:=J.at_ k _ (List.getElem?_eq_getElem hk)
  rw[htabs,h6] at h
  cases h
  exact⟨t,h4,λr hr=>hR.row i t rs h2 h3 r hr⟩
 have hwid:∀rs∈qH (data.items.map Sl.items) b.tabs.items,∀r∈rs,r.items.length=zMs rs:=λrs hrs r hr=>by
  obtain⟨k,hk,e⟩:=List.mem_iff_getElem.1 hrs
  obtain⟨t,_,h⟩:=hlenr k rs (by rw[<-e];exact List.getElem?_eq_getElem hk)
  cases rs with
  |nil=>cases hr
  |cons a l=>rw[(h r hr).len];exact((h a (by simp)).len).symm
 have hvl:(yBk c c.fr.items.length)=(zTc c.s.items c.fr.items).flatMap λt=>t.cols.items:=by
  rw[yCu c hat _ (Nat.le_refl _),List.take_of_length_le (by simp[zTc])]
 have hvlen:(yBk c c.fr.items.length).length<=60:=by
  rw[hvl,zEs]
  have:∀l:List Tbl,(∀t∈l,t.cols.items.length<=20)->(l.map λx=>x.cols.items.length).sum<=20*l.length:=λl=>by
   induction l with
   |nil=>simp
   |cons a l ih=>
    intro h
    have h1:=ih λt ht=>h t (by simp[ht])
    have h2:=h a (by simp)
    rw[List.map_cons,List.sum_cons,List.length_cons]
    omega
  have h:=this (zTc c.s.items c.fr.items) λt ht=>by
   obtain⟨k,hk,e⟩:=List.mem_iff_getElem.1 ht
   have hk':k<c.fr.items.length:=by simpa [zTc] using hk
   obtain⟨i,t',rs,h1,h2,h3,h4,_⟩:=J.at_ k _ (List.getElem?_eq_getElem hk')
   rw[<-e] at *
   rw[List.getElem?_eq_getElem hk] at h4
   cases h4
   exact h20 _ (List.mem_of_getElem? h2)
  have h2:(zTc c.s.items c.fr.items).length=c.fr.items.length:=by simp[zTc]
  omega
 have hvi:b.vars.items=yBk c c.fr.items.length:=by rw[hvars,yR (by omega)]
 have hn:yBx (data.items.map Sl.items) b.tabs.items->b.vars.items.length=((qH (data.items.map Sl.items) b.tabs.items).map zMs).sum:=λhfull=>by
  rw[hvi,hvl,zEs]
  refine yDb (by simp[zTc,qH,htabs]) λk t w ht hw=>?_
  rw[List.getElem?_map] at hw
  have hk:k<c.fr.items.length:=by have:=(List.getElem?_eq_some_iff.1 ht).1;simpa [zTc] using this
  obtain⟨i,t',rs,h1,h2,h3,h4,h5,h6⟩:=J.at_ k _ (List.getElem?_eq_getElem hk)
  rw[htabs,h6] at hw
  rw[h4] at ht
  cases ht
  have hne':=hfull c.fr.items[k] (by rw[htabs];exact List.getElem_mem hk) rs.items (by
   rw[h1,List.getElem?_map]
   show (data.items[i]?).map Sl.items=_
   rw[h3];rfl)
  have hrr:=hR.row i _ rs h2 h3
  cases hrs:rs.items with
  |nil=>exact absurd hrs hne'
  |cons a q=>
   rw[hrs] at hw hrr
   have hw:some a.items.length=some w:=hw
   cases hw
   have h9:=(hrr a (by simp)).len
   rw[tyL,List.length_map] at h9
   exact h9.symm
 have hr:∀r∈zAq (xZ data.items b.tabs.items) [],zIj (tyL b.vars.items) r:=λr hr=>by
  have h:=zYg (xZ data.items b.tabs.items) ((zTc c.s.items c.fr.items).map λt=>tyL t.cols.items) [] [] (by simp[xZ,zTc,htabs]) (λk rs t h1 h2 r hr=>by
   have hk:k<c.fr.items.length:=by have:=(List.getElem?_eq_some_iff.1 h1).1;simp[xZ,htabs] at this;exact this
   obtain⟨i,t',rs',g1,g2,g3,g4,g5,_⟩:=J.at_ k _ (List.getElem?_eq_getElem hk)
   rw[htabs,g5] at h1
   rw[List.getElem?_map,g4] at h2
   cases h1;cases h2
   obtain⟨r',hr',rfl⟩:=List.mem_map.1 hr
   exact hR.row i t' rs' g2 g3 r' hr') ⟨rfl,λi v t h=>by simp at h⟩ r hr
  rw[hvi,hvl,yIv]
  simpa using h
 have hsrc:(qH (data.items.map Sl.items) b.tabs.items).map (λrs=>rs.map Sl.items)=xZ data.items b.tabs.items:=by
  rw[htabs];exact yKe J
 have hb3:b.tabs.items.length<=3:=by rw[htabs];exact hfew
 have hb0:b.tabs.items≠[]:=by rw[htabs];exact hne
 have h16:=yQr st (data.items.map Sl.items) b (tyL b.vars.items) hst (by rw[List.length_map,hR.len];omega) (λx hx=>by
  obtain⟨i,h1,h2⟩:=htin x hx
  exact⟨i,h1,by rw[List.length_map];exact h2⟩) hb3 hb0 (λrs hrs=>by
  obtain⟨rs',h1,rfl⟩:=List.mem_map.1 hrs
  exact⟨hR.few rs' h1,λr hr=>⟨hrn rs' h1 r hr,by have:=(hrow rs' h1 r hr).1;omega⟩⟩) hwid hn hR.wh (by rw[hsrc];exact hr)
 rw[hsrc] at h16
 have h15:=yQs (G:=GK) b data (tyL b.vars.items) htin hb0 hb3 hf hR.wh hr
 refine⟨_,h16,h15,?_,λr hr'=>?_⟩
 ·have h1:(zMt ((zAq (xZ data.items b.tabs.items) []).filter (mtB (tmD b.w.enc)))).length=((zAq (xZ data.items b.tabs.items) []).filter (mtB (tmD b.w.enc))).length:=(zFs vW _).length_eq
  have h2:=List.length_filter_le (mtB (tmD b.w.enc)) (zAq (xZ data.items b.tabs.items) [])
  have h3:=zFn (xZ data.items b.tabs.items) [] 5 λrs h=>(hf.src b.tabs.items rs h).1
  have h4:5 ^ (xZ data.items b.tabs.items).length<=125:=Nat.pow_le_pow_right (n:=5) (by decide) (show (xZ data.items b.tabs.items).length<=3 by simp[xZ];omega)
  omega
 ·have h1:=(zFs vW ((zAq (xZ data.items b.tabs.items) []).filter (mtB (tmD b.w.enc)))).mem_iff.1 hr'
  have h2:=zPl (xZ data.items b.tabs.items) [] (λrs h=>(hf.src b.tabs.items rs h).2) (λv h=>by cases h) r (List.mem_filter.1 h1).1
  have h3:(xZ data.items b.tabs.items).length<=3:=by simp[xZ];omega
  have h4:=h2.1
  simp at h4
  omega
theorem yZu {t:Tbl} (h:zHr t):xEo t:=by
 obtain⟨h1,h2,h3,_,h5,h6,_⟩:=h
 exact⟨by omega,by omega,by omega,h5,h6⟩
theorem yYs (c:Cas) (data:Sl Rows):∃(b:Bnd) (st:D),zA (XG GK) TT 9 [zFd c,qI data]=some (.tuple [yL b,st])/\(st=.nilptr\/((∃cs o,st=.ref cs o)/\(∀g,zF g st=st)/\EqQ data b st)):=by
 suffices h:∃v,zA (XG GK) TT 9 [zFd c,qI data]=some v/\∃(b:Bnd) (st:D),v=.tuple [yL b,st]/\(st=.nilptr\/((∃cs o,st=.ref cs o)/\(∀g,zF g st=st)/\EqQ data b st)) by
  obtain⟨v,h1,b,st,rfl,h2⟩:=h;exact⟨b,st,h1,h2⟩
 obtain⟨b1,h24,hsm⟩:=yYy (G:=GK) c.s
 obtain⟨b3,h42,hbin⟩:=yLt (G:=GK) 8 c.w (by omega)
 have h39:∃b2,b1=true->zA (XG GK) TT 57 [sl 5 zQ c.s]=some (.bool b2):=by
  cases b1 with
  |false=>exact⟨true,λh=>by cases h⟩
  |true=>exact⟨_,λ_=>xLl c.s (hsm rfl).2 (hsm rfl).1⟩
 obtain⟨b2,h39⟩:=h39
 obtain⟨b,ok,h13,hok⟩:=ySj (G:=GK) c b1 b2 b3 h24 h39 h42 (λh t ht=>((hsm h).2 t ht).1)
 have hsb:=λg=>zAx (g:=g) b
 have hsD:zF noR (sl 1 zDy data)=sl 1 zDy data:=qX data
 have nb1:(!false)=true:=rfl
 have nb2:(!true)=false:=rfl
 refine zS T9 rfl (by simp only[go_sem]) ?_
 unfold Tryz.f9 F9
 simp only[Option.getD_some,qI]
 cases ok with
 |false=>
  simp only[zCw,yL] at h13 hsb
  simp +decide only[go_sem,ra]
  refine gw (an5 h13 hsb hsD nb1 nb2) ?_
  simp +decide only[go_sem,ra,hsb]
  exact⟨b,.nilptr,rfl,.inl rfl⟩
 | true=>
  obtain⟨e1,e3,hw,htabs,hne,⟨_,hvars⟩,W,hW⟩:=hok (.inl rfl)
  have hs:=hsm e1
  obtain⟨v,h27,hR⟩:=yQg (G:=GK) c.s b data (λt ht=>(hs.2 t ht).1)
  cases v with
  |false=>
   simp only[zCw,yL,qI] at h13 hsb h27
   simp +decide only[go_sem,ra]
   refine gw (an6 h13 hsb hsD nb1 nb2 h27) ?_
   simp +decide only[go_sem,ra,hsb]
   exact⟨b,.nilptr,rfl,.inl rfl⟩
  | true=>
   have hR:=hR rfl
   have hrow:∀rs∈data.items,∀r∈rs.items,r.items.length<=1000/\∀v∈r.items,v.s.length<4611686018427387904:=λrs hrs r hr=>by
    obtain⟨i,hi,e⟩:=List.mem_iff_getElem.1 hrs
    obtain⟨t,h2⟩:∃t,c.s.items[i]?=some t:=⟨_,List.getElem?_eq_getElem (by rw[<-hR.len];exact hi)⟩
    have ht:=hR.row i _ rs h2 (by rw[<-e];exact List.getElem?_eq_getElem hi) r hr
    have h3:=(hs.2 _ (List.mem_of_getElem? h2)).1
    have h4:=ht.len
    rw[tyL,List.length_map] at h4
    exact⟨by omega,yCy ht⟩
   obtain⟨d,h28,hd⟩:=xAo c.s data (by have:=hs.1;omega) (λt ht=>yZu (hs.2 t ht)) hR.len hR.few hrow
   have hdd:(d=.nilptr\/((∃cs o,d=.ref cs o)/\(∀g,zF g d=d)/\EqQ data b d)):=by
    rcases hd with hd|⟨m,Z,rfl,hZ,hZl,hrows⟩
    ·exact .inl hd
    ·have hfz:=yFr hZ (data:=data.items.map Sl.items) (by rw[hZl,List.length_map,hR.len]) (λi rs hrs=>by
      rw[List.getElem?_map] at hrs
      cases hdi:data.items[i]? with
      |none=>rw[hdi] at hrs;cases hrs
      |some rs'=>
       rw[hdi] at hrs
       have hrs:some rs'.items=some rs:=hrs
       cases hrs
       exact hrows i rs' hdi)
     have hsd:zQp (frz m (.ptr Z.st 0)) (data.items.map Sl.items):=⟨hfz,λg=>zXu g m _ _⟩
     obtain⟨x,tabs,hx,_⟩:=hfz
     refine .inr ⟨⟨_,_,hx⟩,hsd.strip,xVg c data b _ W hW htabs hne hvars hs.1 (λt ht=>(hs.2 t ht).1) hR hsd λrs hrs r hr=>?_⟩
     obtain⟨i,hi,e⟩:=List.mem_iff_getElem.1 hrs
     obtain⟨S,_,hS⟩:=hrows i rs (by rw[<-e];exact List.getElem?_eq_getElem hi)
     obtain⟨j,hj,e2⟩:=List.mem_iff_getElem.1 hr
     exact(hS.2 j r (by rw[<-e2];exact List.getElem?_eq_getElem hj)).1
   have hdo:d.isO=false/\∀g,zF g d=d:=by
    rcases hdd with rfl|⟨⟨cs,o,rfl⟩,h,_⟩
    ·exact⟨rfl,λ_=>rfl⟩
    ·exact⟨rfl,h⟩
   obtain⟨hd1,hd2⟩:=hdo
   clear hd
   simp only[zCw,yL,qI] at h13 hsb h27 h28
   simp +decide only[go_sem,ra]
   refine gw (an9 h13 hsb hsD nb1 nb2 h27 h28 hd1 hd2) ?_
   simp +decide only[go_sem,ra,hsb,hd2]
   exact⟨b,d,rfl,hdd⟩
theorem xUx (c:Cas) (data:Sl Rows) (h10:zA (XG GK) TT 10 []=some (.bool true)):zA (XG GK) TT 4 [zFd c,qI data]=some (.bool true):=by
 obtain⟨b,st,h9,hst⟩:=yYs c data
 have hsb:=λg=>zAx (g:=g) b
 have hsD:zF noR (sl 1 zDy data)=sl 1 zDy data:=qX data
 have nb2:(!true)=false:=rfl
 refine zD T4 rfl (by simp only[go_sem]) ?_
 unfold Tryz.f4 F4
 simp only[Option.getD_some,qI]
 rcases hst with rfl|⟨⟨cs,o,rfl⟩,hss,Q,h16,h15,hQ,hQr⟩
 ·simp only[zCw,yL,qI] at h9 hsb
  simp +decide only[go_sem,ra]
  refine gw (an5 h9 hsb hsD nb2 h10) ?_
  simp +decide only[go_sem]
 ·have hcn:=yNs Q (by omega)
  have h12:=yYz (G:=GK) (cn Q) (λr hr=>hQr r (by rw[zGd _ (by omega)] at hr;exact hr))
  rw[<-hcn] at h12
  have hso:∀g,zF g (wW 1 (Q.map rv))=wW 1 (Q.map rv):=λg=>zFq (uY _)
  have hoo:(wW 1 (Q.map rv)).isO=false:=by cases Q<;>rfl
  generalize wW 1 (Q.map rv)=dd at *
  have hcs:zC noR cs=cs:=by
   have h:=hss noR
   rw[zBd] at h
   injection h
  simp only[zCw,yL,qI] at h9 hsb h15 h16
  simp +decide only[go_sem,ra]
  refine gw (an9 h9 hsb hsD nb2 h10 h16 h15 h12 (an3 hso hoo hcs)) ?_
  simp +decide only[go_sem]
end Go.Eng
