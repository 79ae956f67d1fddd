/- A part of the proof: see the last text. -/
import Derived.Test.YtggiaoaballdgaaGreatDoorJ20
set_option linter.unusedSimpArgs false
set_option linter.unusedVariables false
namespace Go.Eng
open Go Go.Proofs
open Nat renaming reduceAdd → ra, reduceMul → rb, reduceSub → rc
set_option maxRecDepth 20000
set_option maxHeartbeats 32000000
attribute [local irreducible] wpI xU
variable {G:Nat->Option (List D)}
@[go_sem] theorem xZb :Nat.beq 1 1=true:=rfl
theorem yPu (m:Mem) (Z:StS) (i:Nat) (S:xV) (h:zMn m Z) (hS:Z.tabs[i]?=some S) (hl:Z.tabs.length<=1000):zG (XG G) TT 39 m [.ptr Z.st 0,.int .i64 (i:Int)]=some (.ptr S.s 0,m):=by
 have hs:=h.hs
 have hi:=(List.getElem?_eq_some_iff.1 hS).1
 have hx:(Z.tabs.map zDe)[i]?=some (.ptr S.s 0):=by rw[List.getElem?_map,hS];rfl
 have hln:=λP u=>zIx P u 1 Z.ttok (Z.tabs.map zDe)
 have hml:(Z.tabs.map zDe).length=Z.tabs.length:=List.length_map ..
 have hix:=λP t kk n=>zDn P t 1 Z.ttok (Z.tabs.map zDe) kk n
 have l1:((i:Int)<0)=False:=eq_false (by omega)
 have l2:((Z.tabs.length:Int)<=(i:Int))=False:=eq_false (by omega)
 refine yB T39 rfl ?_
 unfold Tryz.f39 F39
 simp only[Option.getD_some]
 simp +decide only[go_sem,ra]
 refine gw (an7 hs hx hln hml hix l1 l2) ?_
 simp +decide only[go_sem]
 try exact⟨rfl,trivial⟩
theorem yYr (m:Mem) (Z:StS) (i:Nat) (t:Tbl) (r:Sl Val) (h:zMn m Z) (ht:Z.schema.items[i]?=some t) (hr:∀v∈r.items,v.s.length<4611686018427387904):zG (XG G) TT 82 m [.ptr Z.st 0,.int .i64 (i:Int),sl 3 vD r]=some (.bool (okR t.cols.items.length r.items),m):=by
 have hct:=yNr (G:=G) r 142 [] m (λx=>!zQc x) (eq_true (by decide)) (λx hx=>by rw[zGi xNi,show zH [vD x]=[vD x] from rfl,yZn x (hr x hx)];rfl)
 have hva:=zWn r.items
 generalize r.items.any (λx=>!zQc x)=w at *
 have hs:=h.hs
 have hi:=(List.getElem?_eq_some_iff.1 ht).1
 refine yB T82 rfl ?_
 unfold Tryz.f82 F82
 simp only[Option.getD_some]
 simp +decide only[go_sem,ra]
 by_cases e:r.items.length=t.cols.items.length
 ·have e1:((r.items.length:Int)==(t.cols.items.length:Int))=true:=by simp[e]
  refine gw (an4 hs hct e1 ht) ?_
  simp +decide only[go_sem]
  rw[okR,<-hva];simp[e]
 ·have e1:((r.items.length:Int)==(t.cols.items.length:Int))=false:=by simp;omega
  refine gw (an4 hs hct e1 ht) ?_
  simp +decide only[go_sem]
  rw[okR];simp[e]
def chD (i id:Int) (r:Sl Val):D:=.agg [.int .i64 i,.int .i64 id,.nil,sl 3 vD r]
theorem ySh (m:Mem) (Z:StS) (i:Nat) (S:xV) (r:Sl Val) (h:zMn m Z) (hS:Z.tabs[i]?=some S) (hl:Z.tabs.length<=1000) (hr:∀v∈r.items,v.s.length<4611686018427387904) (hn:S.rows.length<=900) :
  zG (XG G) TT 46 m [.ptr Z.st 0,chD i ((S.rows.length+1:Nat):Int) r]=some (.int .i64 (bif r.items.isEmpty||!okR S.cols r.items then 1 else 0),m):=by
 have h39:=yPu (G:=G) m Z i S h hS hl
 obtain⟨t,ht,hcl⟩:=h.cl i S hS
 have h82:=yYr (G:=G) m Z i t r h ht hr
 rw[<-hcl] at h82
 have h83:=xPc (G:=G) m S (h.at_ S (List.mem_of_getElem? hS)) hn
 have l1:(((S.rows.length+1:Nat):Int)<1)=False:=eq_false (by omega)
 have l2:((4611686018427387904:Int)<((S.rows.length+1:Nat):Int))=False:=eq_false (by omega)
 refine yB T46 rfl ?_
 unfold Tryz.f46 F46
 simp only[Option.getD_some,chD]
 have n0:(((0:Nat):Int)==0)=true:=rfl
 have n1:((0:Int)<((0:Nat):Int))=False:=eq_false (by omega)
 simp +decide only[go_sem,ra]
 by_cases e:r.items=[]
 ·have e1:((r.items.length:Int)==0)=true:=by rw[e];rfl
  have e2:r.items.isEmpty=true:=by rw[e];rfl
  have e3:((0:Int)<(r.items.length:Int))=False:=eq_false (by rw[e];simp)
  refine gw (an9 h39 h82 h83 l1 l2 n0 n1 e1 e3) ?_
  simp +decide only[go_sem]
  rw[e2];exact⟨rfl,trivial⟩
 ·have hp:0<r.items.length:=List.length_pos_iff.2 e
  have e1:((r.items.length:Int)==0)=false:=by simp;omega
  have e2:r.items.isEmpty=false:=by cases h:r.items with|nil=>exact absurd h e|cons a b=>rfl
  have e3:((0:Int)<(r.items.length:Int))=True:=eq_true (by omega)
  cases ho:okR S.cols r.items with
  |true=>
   rw[ho] at h82
   refine gw (an9 h39 h82 h83 l1 l2 n0 n1 e1 e3) ?_
   simp +decide only[go_sem]
   rw[e2];exact⟨rfl,trivial⟩
  |false=>
   rw[ho] at h82
   refine gw (an9 h39 h82 h83 l1 l2 n0 n1 e1 e3) ?_
   simp +decide only[go_sem]
   rw[e2];exact⟨rfl,trivial⟩
theorem ySn (m:Mem) (Z:StS) (i:Nat) (S:xV) (r:Sl Val) (h:zMn m Z) (hS:Z.tabs[i]?=some S) (hl:Z.tabs.length<=1000) (hr:∀v∈r.items,v.s.length<4611686018427387904) (hn:S.rows.length<15) (hrl:r.items.length<=1000) :
  (r.items≠[]/\okR S.cols r.items=true/\∃m' S' rt,zG (XG G) TT 19 m [.ptr Z.st 0,chD i ((S.rows.length+1:Nat):Int) r]=some (.int .i64 0,m')/\zMn m' { Z with tabs:=Z.tabs.set i S' }/\S'.rows=S.rows++[.slice (some rt) 3 (r.items.map vD)])\/
  ((r.items=[]\/okR S.cols r.items=false)/\zG (XG G) TT 19 m [.ptr Z.st 0,chD i ((S.rows.length+1:Nat):Int) r]=some (.int .i64 1,m)):=by
 have hck:=ySh (G:=G) m Z i S r h hS hl hr (by omega)
 have hs:=h.hs
 have hi:=(List.getElem?_eq_some_iff.1 hS).1
 have hx:(Z.tabs.map zDe)[i]?=some (.ptr S.s 0):=by rw[List.getElem?_map,hS];rfl
 have hix:=λP t kk n=>zDn P t 1 Z.ttok (Z.tabs.map zDe) kk n
 by_cases hb:r.items≠[]/\okR S.cols r.items=true
 ·refine .inl ⟨hb.1,hb.2,?_⟩
  have e2:r.items.isEmpty=false:=by cases h:r.items with|nil=>exact absurd h hb.1|cons a b=>rfl
  rw[hb.2,e2] at hck
  simp only[Bool.not_true,Bool.or_self,cond_false,chD] at hck
  obtain⟨m',S',rt,hp,p1,p2,p3,p4,p5,p6⟩:=xLw (G:=G) m S r (h.at_ S (List.mem_of_getElem? hS)) hb.1 hb.2 hn hrl (by have:=h.ixl S (List.mem_of_getElem? hS);omega)
  have hp0:0<r.items.length:=List.length_pos_iff.2 hb.1
  have e1:((r.items.length:Int)==0)=false:=by rw[beq_eq_false_iff_ne];omega
  have n2:((0:Int) != 0)=false:=rfl
  refine⟨m',S',rt,?_,yYu h hS p2 p3 p5 p1 p6,p4⟩
  refine yB T19 rfl ?_
  unfold Tryz.f19 F19
  simp only[Option.getD_some,chD]
  simp +decide only[go_sem,ra]
  refine gw (an7 hck hs hx hix hp e1 n2) ?_
  simp +decide only[go_sem]
  try exact⟨rfl,trivial⟩
 ·refine .inr ⟨?_,?_⟩
  ·by_cases he:r.items=[]
   ·exact .inl he
   ·exact .inr (by cases ho:okR S.cols r.items with|false=>rfl|true=>exact absurd ⟨he,ho⟩ hb)
  ·have hv:(r.items.isEmpty||!okR S.cols r.items)=true:=by
    cases he:r.items with
    |nil=>rfl
    |cons a l=>
     cases ho:okR S.cols (a::l) with
     |false=>rfl
     |true=>exact absurd ⟨by rw[he];simp,by rw[he];exact ho⟩ hb
   rw[hv] at hck
   simp only[cond_true,chD] at hck
   have n2:((1:Int) != 0)=true:=rfl
   refine yB T19 rfl ?_
   unfold Tryz.f19 F19
   simp only[Option.getD_some,chD]
   simp +decide only[go_sem,ra]
   refine gw (an hck n2) ?_
   simp +decide only[go_sem]
   try exact⟨rfl,trivial⟩
theorem yYv {m m1:Mem} {Z:StS} {S:xV} {t:Tbl} {tk:List Nat} {tok':Nat} (h:zMn m Z) (hA:wG m1 S) (hF:Fr [] S.ids [] S.tks m m1) (ht:Z.schema.items[Z.tabs.length]?=some t) (hc:S.cols=t.cols.items.length) (hi:S.ix.length<=800)
  (htk':tk[tok']?=some (Z.tabs.length+1)) (hfa:Fr [] [] (tkR Z.ttok (Z.tabs.map zDe)) [tok'] m1 ⟨m1.boxes,tk⟩) :
  zMn ⟨m1.boxes.set Z.st [sl 5 zQ Z.schema,vdK 1 tok' (Z.tabs.map zDe++[.ptr S.s 0])],tk⟩ { Z with ttok:=tok',tabs:=Z.tabs++[S] }:=by
 have hlt:=h.lt
 have htl:=h.tlt
 have hset:∀x id,id≠Z.st->(m1.boxes.set Z.st x)[id]?=m1.boxes[id]?:=λx id h=>List.getElem?_set_ne (λe=>h e.symm)
 have hst:Z.st<m.boxes.length:=hlt _ (by simp[StS.ids])
 have hold:∀id,id<m.boxes.length->m1.boxes[id]?=m.boxes[id]?:=λid h=>hF.keep id h (by simp)
 have htold:∀id,id<m.toks.length->m1.toks[id]?=m.toks[id]?:=λid h=>hF.tkeep id h (by simp)
 have hnew:∀id∈S.ids,m.boxes.length<=id:=λid hid=>(hF.sub id hid).resolve_left (by simp)
 have htnew:∀id∈S.tks,m.toks.length<=id:=λid hid=>(hF.tsub id hid).resolve_left (by simp)
 have hids:StS.ids { Z with ttok:=tok',tabs:=Z.tabs++[S] }=Z.ids++S.ids:=by
  simp[StS.ids,zAb]
 have htks:StS.tks { Z with ttok:=tok',tabs:=Z.tabs++[S] }=[tok']++(qS Z.tabs++S.tks):=by
  show tkR tok' ((Z.tabs++[S]).map zDe)++qS (Z.tabs++[S])=_
  rw[List.map_append,List.map_cons,List.map_nil,tkR_app]
  simp[qS]
 have hnd:=h.nd
 have hnd2:=hnd
 simp only[StS.ids,List.nodup_cons] at hnd2
 have htnd:=h.tnd
 have htnd2:=List.nodup_append.1 htnd
 have htok1:∀id,id<m1.toks.length->id∉tkR Z.ttok (Z.tabs.map zDe)->tk[id]?=m1.toks[id]?:=λid h1 h2=>hfa.tkeep id h1 h2
 have htoknew:tok'∈tkR Z.ttok (Z.tabs.map zDe)\/m1.toks.length<=tok':=hfa.tsub tok' (by simp)
 have hsub1:∀id∈tkR Z.ttok (Z.tabs.map zDe),id<m.toks.length:=λid hid=>htl id (List.mem_append_left _ hid)
 have htl1:m.toks.length<=m1.toks.length:=hF.tlen
 refine⟨?_,λ_=>?_,?_,?_,?_,?_,?_⟩
 ·show (m1.boxes.set Z.st _)[Z.st]?=some [_,vdK 1 tok' ((Z.tabs++[S]).map zDe)]
  rw[List.map_append]
  exact List.getElem?_set_self (Nat.lt_of_lt_of_le hst hF.len)
 ·show tk[tok']?=some (Z.tabs++[S]).length
  rw[List.length_append];exact htk'
 ·intro y hy
  rw[List.mem_append,List.mem_singleton] at hy
  rcases hy with hy|rfl
  ·refine(h.at_ y hy).keep (λid hid=>?_) (λid hid=>?_)
   ·have h1:id∈zAb Z.tabs:=List.mem_flatMap.2 ⟨y,hy,hid⟩
    exact(hset _ _ λe=>hnd2.1 (e▸h1)).trans (hold id (hlt id (List.mem_cons_of_mem _ h1)))
   ·have h1:id∈qS Z.tabs:=List.mem_flatMap.2 ⟨y,hy,hid⟩
    have h2:=htl id (List.mem_append_right _ h1)
    exact(htok1 id (by omega) λe=>htnd2.2.2 id e id h1 rfl).trans (htold id h2)
  ·refine hA.keep (λid hid=>?_) (λid hid=>?_)
   ·have:=hnew id hid
    exact hset _ _ (by omega)
   ·have h1:=htnew id hid
    exact htok1 id (hA.tlt id hid) λe=>by have:=hsub1 id e;omega
 ·rw[hids,List.nodup_append]
  refine⟨hnd,hA.nd,λa ha b hb=>?_⟩
  have:=hlt a ha
  have:=hnew b hb
  omega
 ·rw[htks,List.nodup_append,List.nodup_append]
  refine⟨by simp,⟨htnd2.2.1,hA.tnd,λa ha b hb=>?_⟩,λa ha b hb=>?_⟩
  ·have:=htl a (List.mem_append_right _ ha)
   have:=htnew b hb
   omega
  ·simp only[List.mem_singleton] at ha
   subst ha
   rw[List.mem_append] at hb
   rcases hb with hb|hb
   ·rcases htoknew with h1|h1
    ·exact htnd2.2.2 a h1 b hb
    ·have:=htl b (List.mem_append_right _ hb);omega
   ·have h2:=hA.tlt b hb
    have h3:=htnew b hb
    rcases htoknew with h1|h1
    ·have:=hsub1 a h1;omega
    ·omega
 ·intro j y hy
  have hy:(Z.tabs++[S])[j]?=some y:=hy
  by_cases hj:j<Z.tabs.length
  ·rw[List.getElem?_append_left hj] at hy
   exact h.cl j y hy
  ·have hj2:=(List.getElem?_eq_some_iff.1 hy).1
   obtain rfl:j=Z.tabs.length:=by simp at hj2;omega
   simp at hy
   subst hy
   exact⟨t,ht,hc⟩
 ·intro y hy
  rw[List.mem_append,List.mem_singleton] at hy
  rcases hy with hy|rfl
  ·exact h.ixl y hy
  ·exact hi
end Go.Eng
namespace Go.Eng
open Go Go.Proofs
open Nat renaming reduceAdd → ra, reduceMul → rb, reduceSub → rc
set_option maxRecDepth 20000
set_option maxHeartbeats 32000000
attribute [local irreducible] wpI xU
structure xEo (t:Tbl):Prop where
 cols:t.cols.items.length<=1000
 keys:t.keys.items.length<=400
 fgns:t.fgns.items.length<=400
 kc:∀c∈t.keys.items,c.items.length<=20
 fc:∀f∈t.fgns.items,f.cols.items.length<=20
structure NsI (m:Mem) (Z:StS) (s':Sl Tbl) (st k:Nat):Prop where
 at_:zMn m Z
 st:Z.st=st
 schema:Z.schema=s'
 len:Z.tabs.length=k
 rows:∀S∈Z.tabs,S.rows=[]
theorem xOq (s:Sl Tbl) (hs:s.items.length<=1000) (hb:∀t∈s.items,xEo t) :
  ∃m' Z,zG (XG GK) TT 63 ⟨[],[]⟩ [sl 5 zQ s]=some (.ptr Z.st 0,m')/\zMn m' Z/\Z.tabs.length=s.items.length/\(∀S∈Z.tabs,S.rows=[])/\∀(i:Nat) (t:Tbl),s.items[i]?=some t->∃t',Z.schema.items[i]?=some t'/\zTn t t':=by
 suffices hh:∃d m',zG (XG GK) TT 63 ⟨[],[]⟩ [sl 5 zQ s]=some (d,m')/\∃Z:StS,d=.ptr Z.st 0/\zMn m' Z/\Z.tabs.length=s.items.length/\(∀S∈Z.tabs,S.rows=[])/\∀(i:Nat) (t:Tbl),s.items[i]?=some t->∃t',Z.schema.items[i]?=some t'/\zTn t t' by
  obtain⟨d,m',h1,Z,rfl,h2⟩:=hh;exact⟨m',Z,h1,h2⟩
 obtain⟨s',hc,hl',hsame⟩:=copy110' (G:=GK) s hs λt ht=>by
  have:=hb t ht
  exact⟨this.cols,by have:=this.keys;omega,by have:=this.fgns;omega,λc hc=>by have:=this.kc c hc;omega,λf hf=>by have:=this.fc f hf;omega⟩
 have hb':∀t'∈s'.items,xEo t':=λt' ht'=>by
  obtain⟨i,hi,hit⟩:=List.mem_iff_getElem.1 ht'
  obtain⟨t2,h2,h3⟩:=hsame i s.items[i] (List.getElem?_eq_getElem (by omega))
  rw[List.getElem?_eq_getElem hi,hit] at h2
  cases h2
  have hq:=hb _ (List.getElem_mem (by omega:i<s.items.length))
  exact⟨by rw[h3.cols];exact hq.cols,by rw[h3.keys];exact hq.keys,by rw[h3.fgns];exact hq.fgns,by rw[h3.keys];exact hq.kc,by rw[h3.fgns];exact hq.fc⟩
 have hlt':=s'.lt
 have h0:NsI ⟨[[sl 5 zQ s',.nil]],[]⟩ ⟨0,s',0,[]⟩ s' 0 0:=⟨⟨rfl,λh=>absurd rfl h,(λS hS=>by cases hS),by simp[StS.ids,zAb],by simp[StS.tks,tkR,qS],λi S h=>by simp at h,(λS hS=>by cases hS)⟩,rfl,rfl,rfl,(λS hS=>by cases hS)⟩
 refine zO T63 rfl ?_
 unfold Tryz.f63 F63
 simp only[Option.getD_some]
 simp +decide only[go_sem]
 refine gw hc ?_
 refine lpC (T:=Nat×Mem×StS) [3,13,14,15] (λp=>[(15,.int .i64 (p.1:Int))]) (λ_=>[]) (λp=>p.2.1) (λp=>p.1<=s'.items.length/\NsI p.2.1 p.2.2 s' 0 p.1) (λp=>s'.items.length-p.1) (0,_,_) (by exact⟨Nat.zero_le _,h0⟩) ?_
 rintro ⟨k,m,Z⟩ ⟨hk,hI⟩
 simp only at hk hI ⊢
 by_cases h:k<s'.items.length
 ·obtain⟨l_t,t,g_t,w_t⟩:=elm (L:=s'.items) (k:=k) (by assumption) (by omega)
  have hq:=hb' t (List.mem_of_getElem? g_t)
  obtain⟨m1,S,hn,hA,hr,hcl,hil,hF⟩:=yZs m t hq.keys hq.fgns hq.kc hq.fc
  simp only[zQ] at hn
  have hzs:=hI.at_.hs
  rw[hI.st,hI.schema] at hzs
  have h0m:0<m.boxes.length:=(List.getElem?_eq_some_iff.1 hzs).1
  have hzs1:m1.boxes[0]?=some [sl 5 zQ s',vdK 1 Z.ttok (Z.tabs.map zDe)]:=(hF.keep 0 h0m (by simp)).trans hzs
  obtain⟨tok',tk',ha,htk',hfa⟩:=yCs 1 Z.ttok m1 (Z.tabs.map zDe) (.ptr S.s 0) (λe=>by
   rw[List.length_map]
   have hne:Z.tabs≠[]:=by simpa using e
   exact(hF.tkeep _ (hI.at_.tlt _ (List.mem_append_left _ (zKa e))) (by simp)).trans (hI.at_.tt hne))
  have z1:=λm=>qW m 1 Z.ttok (Z.tabs.map zDe)
  have z2:(Z.tabs.map zDe).length=Z.tabs.length:=List.length_map ..
  have z3:(Z.tabs.length+1<=16777216)=True:=eq_true (by have:=hI.len;omega)
  have y1:∀Q P:Prop,((Q\/Sub m m1)/\P)=P:=zAn (zDh λid h=>hF.keep id h (by simp))
  rw[z2] at htk'
  have hadd:=yYv hI.at_ hA hF (t:=t) (by rw[hI.schema,hI.len];exact g_t) hcl hil htk' hfa
  rw[hI.st,hI.schema] at hadd
  refine gw (an9 hc l_t g_t w_t hn hzs hzs1 ha (an4 z1 z2 z3 y1)) ?_
  exact⟨(k+1,⟨m1.boxes.set 0 [sl 5 zQ s',vdK 1 tok' (Z.tabs.map zDe++[.ptr S.s 0])],tk'⟩,⟨0,s',tok',Z.tabs++[S]⟩),by simp +decide only[go_sem]<;>rfl,⟨h,⟨hadd,rfl,rfl,by show (Z.tabs++[S]).length=_;rw[List.length_append,hI.len];rfl,λy hy=>by
   rcases List.mem_append.1 hy with hy|hy
   ·exact hI.rows y hy
   ·simp at hy;subst hy;exact hr⟩⟩,by simp only;omega⟩
 ·have l_t:((k:Int)<((s'.items).length:Int))=False:=by simp;omega
  refine gw (an hc l_t) ?_
  simp +decide only[go_sem]
  exact⟨Z,by rw[hI.st],hI.at_,by rw[hI.len];omega,hI.rows,λi t ht=>by rw[hI.schema];exact hsame i t ht⟩
abbrev Rows :Type:=Sl (Sl Val)
def zDy (r:Rows):D:=sl 1 (sl 3 vD) r
@[go_sem] theorem xFh (r:Rows):zDy r=sl 1 (sl 3 vD) r:=rfl
def qI (d:Sl Rows):D:=sl 1 zDy d
@[go_sem] theorem qX {g:Nat->Nat->Nat->Nat->D} (d:Sl Rows):zF g (qI d)=qI d:=xL 1 zDy d λx=>xL 1 (sl 3 vD) x λy=>yEo 3 y
def zNc (rows:List D) (rs:List (Sl Val)):Prop:=rows.length=rs.length/\∀(j:Nat) (r:Sl Val),rs[j]?=some r->r.items≠[]/\∃rt,rows[j]?=some (.slice (some rt) 3 (r.items.map vD))
structure FlI (m:Mem) (Z:StS) (st n:Nat) (data:Sl Rows) (k j:Nat):Prop where
 at_:zMn m Z
 st:Z.st=st
 len:Z.tabs.length=n
 done:∀(i:Nat) (S:xV) (rs:Rows),i<k->Z.tabs[i]?=some S->data.items[i]?=some rs->zNc S.rows rs.items
 cur:∀(S:xV) (rs:Rows),Z.tabs[k]?=some S->data.items[k]?=some rs->zNc S.rows (rs.items.take j)
 todo:∀(i:Nat) (S:xV),k<i->Z.tabs[i]?=some S->S.rows=[]
theorem xAm {m m2:Mem} {Z:StS} {st n k j:Nat} {data:Sl Rows} {S S':xV} {rs:Rows} {r:Sl Val} {rt:Nat} (h:FlI m Z st n data k j) (hS:Z.tabs[k]?=some S) (hrs:data.items[k]?=some rs) (hr:rs.items[j]?=some r) (hne:r.items≠[]) (hZ:zMn m2 { Z with tabs:=Z.tabs.set k S' }) (hrw:S'.rows=S.rows++[.slice (some rt) 3 (r.items.map vD)]):FlI m2 { Z with tabs:=Z.tabs.set k S' } st n data k (j+1):=by
 have hkl:=(List.getElem?_eq_some_iff.1 hS).1
 have hcur:=h.cur S rs hS hrs
 refine⟨hZ,h.st,by show (Z.tabs.set k S').length=n;rw[List.length_set];exact h.len,λi S1 rs1 hi h1 h2=>?_,λS1 rs1 h1 h2=>?_,λi S1 hi h1=>?_⟩
 ·have h1:(Z.tabs.set k S')[i]?=some S1:=h1
  rw[List.getElem?_set_ne (by omega)] at h1
  exact h.done i S1 rs1 hi h1 h2
 ·have h1:(Z.tabs.set k S')[k]?=some S1:=h1
  rw[List.getElem?_set_self hkl] at h1
  cases h1
  rw[hrs] at h2
  cases h2
  have hj:=(List.getElem?_eq_some_iff.1 hr).1
  have hlen:S.rows.length=j:=by rw[hcur.1,List.length_take];omega
  rw[hrw]
  refine⟨by simp only[List.length_append,List.length_singleton,List.length_take];omega,λi r' hr'=>?_⟩
  have hi:=(List.getElem?_eq_some_iff.1 hr').1
  rw[List.length_take] at hi
  by_cases e:i<j
  ·rw[List.getElem?_take_of_lt (by omega)] at hr'
   obtain⟨q1,rt',q2⟩:=hcur.2 i r' (by rw[List.getElem?_take_of_lt e];exact hr')
   exact⟨q1,rt',by rw[List.getElem?_append_left (by omega)];exact q2⟩
  ·obtain rfl:i=j:=by omega
   rw[List.getElem?_take_of_lt (by omega),hr] at hr'
   cases hr'
   exact⟨hne,rt,by rw[<-hlen];simp⟩
 ·have h1:(Z.tabs.set k S')[i]?=some S1:=h1
  rw[List.getElem?_set_ne (by omega)] at h1
  exact h.todo i S1 hi h1
theorem yRq {m:Mem} {Z:StS} {st n k j:Nat} {data:Sl Rows} {rs:Rows} (h:FlI m Z st n data k j) (hrs:data.items[k]?=some rs) (hj:rs.items.length<=j):FlI m Z st n data (k+1) 0:=by
 refine⟨h.at_,h.st,h.len,λi S1 rs1 hi h1 h2=>?_,λS1 rs1 h1 h2=>?_,λi S1 hi h1=>h.todo i S1 (by omega) h1⟩
 ·by_cases e:i<k
  ·exact h.done i S1 rs1 e h1 h2
  ·obtain rfl:i=k:=by omega
   have:=h.cur S1 rs1 h1 h2
   rw[hrs] at h2
   cases h2
   rwa [List.take_of_length_le hj] at this
 ·rw[h.todo (k+1) S1 (by omega) h1]
  exact⟨rfl,λj r h=>by simp at h⟩
theorem xAo (s:Sl Tbl) (data:Sl Rows) (hs:s.items.length<=1000) (hb:∀t∈s.items,xEo t) (hd:data.items.length=s.items.length) (h5:∀rs∈data.items,rs.items.length<=5) (hv:∀rs∈data.items,∀r∈rs.items,r.items.length<=1000/\∀v∈r.items,v.s.length<4611686018427387904) :
  ∃d,zA (XG GK) TT 28 [sl 5 zQ s,qI data]=some d/\(d=.nilptr\/∃m Z,d=frz m (.ptr Z.st 0)/\zMn m Z/\Z.tabs.length=s.items.length/\∀(i:Nat) (rs:Rows),data.items[i]?=some rs->∃S,Z.tabs[i]?=some S/\zNc S.rows rs.items):=by
 obtain⟨m0,Z0,hnew,hA0,hn0,hr0,_⟩:=xOq s hs hb
 have h0:FlI m0 Z0 Z0.st s.items.length data 0 0:=⟨hA0,rfl,hn0,λi S rs h=>by omega,λS rs h1 h2=>by rw[hr0 S (List.mem_of_getElem? h1)];exact⟨rfl,λj r h=>by simp at h⟩,λi S _ h=>hr0 S (List.mem_of_getElem? h)⟩
 generalize hst:Z0.st=st at *
 refine zS T28 rfl (by simp only[go_sem]) ?_
 unfold Tryz.f28 F28
 simp only[Option.getD_some]
 have hlt:=data.lt
 unfold qI
 simp +decide only[go_sem,ra]
 refine gw hnew ?_
 refine lpC (T:=Nat×Mem×StS) [5,14,15,16] (λp=>[(16,.int .i64 (p.1:Int))]) (λ_=>[]) (λp=>p.2.1) (λp=>p.1<=data.items.length/\FlI p.2.1 p.2.2 st s.items.length data p.1 0) (λp=>data.items.length-p.1) (0,m0,Z0) (by exact⟨Nat.zero_le _,h0⟩) ?_
 rintro ⟨k,m,Z⟩ ⟨hk,hI⟩
 simp only at hk hI ⊢
 by_cases h:k<data.items.length
 ·obtain⟨l_rs,rs,g_rs,w_rs⟩:=elm (L:=data.items) (k:=k) (by assumption) (by omega)
  have hrs:=List.mem_of_getElem? g_rs
  have hlr:=rs.lt
  refine gw (an4 hnew l_rs g_rs w_rs) ?_
  refine lpC (T:=Nat×Mem×StS) [5,6,14,15,16,21,22,23] (λp=>[(23,.int .i64 (p.1:Int))]) (λ_=>[]) (λp=>p.2.1) (λp=>p.1<=rs.items.length/\FlI p.2.1 p.2.2 st s.items.length data k p.1) (λp=>rs.items.length-p.1) (0,m,Z) (by exact⟨Nat.zero_le _,hI⟩) ?_
  rintro ⟨j,m1,Z1⟩ ⟨hj,hI1⟩
  simp only at hj hI1 ⊢
  by_cases h':j<rs.items.length
  ·obtain⟨l_r,r,g_r,w_r⟩:=elm (L:=rs.items) (k:=j) (by assumption) (by omega)
   have hrm:=List.mem_of_getElem? g_r
   obtain⟨v1,v2⟩:=hv rs hrs r hrm
   obtain⟨S,hS⟩:∃S,Z1.tabs[k]?=some S:=⟨_,List.getElem?_eq_getElem (by rw[hI1.len];omega)⟩
   have hcur:=hI1.cur S rs hS g_rs
   have hrl:S.rows.length=j:=by rw[hcur.1,List.length_take];omega
   have h5':=h5 rs hrs
   have hap:=ySn (G:=GK) m1 Z1 k S r hI1.at_ hS (by rw[hI1.len];omega) v2 (by omega) v1
   rw[hrl,hI1.st] at hap
   simp only[chD] at hap
   have n2:((1:Int) != 0)=true:=rfl
   have n3:((0:Int) != 0)=false:=rfl
   rcases hap with⟨a1,a2,m2,S',rt,hc,hZ,hrw⟩|⟨_,hc⟩
   ·have hZ':zMn m2 { Z1 with tabs:=Z1.tabs.set k S' }:=by rw[<-hI1.st] at hZ;exact hZ
    refine gw (an9 hnew l_rs g_rs w_rs l_r g_r w_r hc n3) ?_
    exact⟨(j+1,m2,{ Z1 with tabs:=Z1.tabs.set k S' }),by simp +decide only[go_sem]<;>rfl,⟨h',xAm hI1 hS g_rs g_r a1 hZ' hrw⟩,by simp only;omega⟩
   ·refine gw (an9 hnew l_rs g_rs w_rs l_r g_r w_r hc n2) ?_
    simp +decide only[go_sem]
    exact .inl rfl
  ·have l_r:((j:Int)<((rs.items).length:Int))=False:=by simp;omega
   refine gw (an5 hnew l_rs g_rs w_rs l_r) ?_
   exact⟨(k+1,m1,Z1),by simp +decide only[go_sem]<;>rfl,⟨h,yRq hI1 g_rs (by omega)⟩,by simp only;omega⟩
 ·have l_rs:((k:Int)<((data.items).length:Int))=False:=by simp;omega
  refine gw (an hnew l_rs) ?_
  simp +decide only[go_sem]
  refine .inr ⟨m,Z,by rw[hI.st],hI.at_,hI.len,λi rs hrs=>?_⟩
  have hi:=(List.getElem?_eq_some_iff.1 hrs).1
  obtain⟨S,hS⟩:∃S,Z.tabs[i]?=some S:=⟨_,List.getElem?_eq_getElem (by rw[hI.len];omega)⟩
  exact⟨S,hS,hI.done i S rs (by omega) hS hrs⟩
end Go.Eng
