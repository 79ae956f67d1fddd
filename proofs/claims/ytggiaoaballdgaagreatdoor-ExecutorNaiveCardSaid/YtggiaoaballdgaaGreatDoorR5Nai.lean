/- A part of the proof: see the last text. -/
import Derived.Test.YtggiaoaballdgaaGreatDoorJ26
import Derived.Test.YtggiaoaballdgaaGreatDoorJ31
import Derived.Test.YtggiaoaballdgaaGreatDoorJ35
set_option linter.unusedSimpArgs false
set_option linter.unusedVariables false
namespace Go.Eng
open Go Go.Proofs
open Nat renaming reduceAdd → ra, reduceMul → rb, reduceSub → rc
set_option maxRecDepth 20000
set_option maxHeartbeats 32000000
attribute [local irreducible] wpI xU
def yCb (m:Mem) (es:List D) (L:List (Int×List Val)):Prop:=es.length=L.length/\∀(i:Nat) (p:Int×List Val),L[i]?=some p->∃cD,es[i]?=some (.agg [.int .i64 p.1,cD])/\yBh m cD p.2
theorem yCb.keep {m m':Mem} {es:List D} {L:List (Int×List Val)} (h:yCb m es L) (k:∀id,id<m.boxes.length->m'.boxes[id]?=m.boxes[id]?):yCb m' es L:=
 ⟨h.1,λi p e=>by obtain⟨cD,h1,h2⟩:=h.2 i p e;exact⟨cD,h1,h2.keep k⟩⟩
theorem yRw (m:Mem) (L:List (Int×List Val)):yCb m (L.map qE) L:=
 ⟨List.length_map ..,λi p e=>⟨.slice none 3 (p.2.map vD),by rw[List.getElem?_map,e];rfl,.inl ⟨none,rfl⟩⟩⟩
theorem yJl (r:List Val):(rv r).cells=[rv r]:=rfl
theorem zUg (L:List (List Val)):zV (L.map rv)=L.map rv:=by
 induction L with
 |nil=>rfl
 |cons a l ih=>show (rv a).cells++zV (l.map rv)=_;rw[ih];rfl
theorem yQk (m:Mem) (o:D) (L:List (List Val)) (x:List Val) (h:yYf m o L):∃m3,zY m 1 o=some (L.map rv)/\vX 1 m o (L.map rv) [rv x]=some (.rsl m.boxes.length 0 (L.length+1) 1,m3)/\m3.toks=m.toks/\m3.boxes.length=m.boxes.length+1/\m3.boxes[m.boxes.length]?=some ((L++[x]).map rv)/\∀id,id<m.boxes.length->id∉uU o->m3.boxes[id]?=m.boxes[id]?:=by
 rcases h with⟨rfl,rfl⟩|⟨hne,id,rfl,hb⟩
 ·exact⟨⟨m.boxes++[zV [rv x]],m.toks⟩,rfl,rfl,rfl,by simp,by simp[zV,yJl],λid hid _=>List.getElem?_append_left hid⟩
 ·have hb:m.boxes[id]?=some (L.map rv):=hb
  have hbc:uN m id=some (L.map rv):=wQ hb (zHl L)
  have hlt:=(List.getElem?_eq_some_iff.1 hb).1
  have hp:0<L.length:=List.length_pos_iff.2 hne
  have hch:=wT (k:=1) (f:=rv) (λ_=>rfl) (λ_=>rfl) L
  rw[zUg] at hch
  have hfa:zV (L.map rv++[rv x])=(L++[x]).map rv:=by
   rw[show L.map rv++[rv x]=(L++[x]).map rv by simp,zUg]
  refine⟨⟨m.boxes.set id []++[zV (L.map rv++[rv x])],m.toks⟩,?_,?_,rfl,by simp,?_,λj hj hn=>?_⟩
  ·show (bif decide (1=1) then qG m id 0 L.length 1 else none)=_
   show qG m id 0 L.length 1=_
   unfold qG
   rw[hbc]
   simp only[Nat.zero_add,Nat.mul_one,List.length_map,Nat.le_refl,decide_true,cond_true,List.drop_zero]
   rw[hch]
  ·have h2:(decide (1=1)&&(decide (0=0)&&(decide ((L.map rv).length=L.length*1)&&decide (0<L.length))))=true:=by
    simp[hp]
   show (match uN m id with
    |some cs=>bif decide (1=1)&&(decide (0=0)&&(decide (cs.length=L.length*1)&&decide (0<L.length))) then some (D.rsl m.boxes.length 0 (L.map rv++[rv x]).length 1,Mem.mk (m.boxes.set id []++[zV (L.map rv++[rv x])]) m.toks) else none
    |none=>none)=_
   rw[hbc]
   show (bif decide (1=1)&&(decide (0=0)&&(decide ((L.map rv).length=L.length*1)&&decide (0<L.length))) then some (D.rsl m.boxes.length 0 (L.map rv++[rv x]).length 1,Mem.mk (m.boxes.set id []++[zV (L.map rv++[rv x])]) m.toks) else none)=_
   rw[h2]
   simp
  ·show (m.boxes.set id []++[zV (L.map rv++[rv x])])[m.boxes.length]?=_
   rw[List.getElem?_append_right (by simp),hfa];simp
  ·have hj':j≠id:=λe=>hn (by simp[uU,e])
   show (m.boxes.set id []++[zV (L.map rv++[rv x])])[j]?=_
   rw[List.getElem?_append_left (by simpa using hj),List.getElem?_set_ne (λe=>hj' e.symm)]
structure NvI (data:List (List (Sl Val))) (S:List (List (Sl Val))) (n:Nat) (R:List (Int×List Val)) (k:Nat) (t:Option Nat) (es:List D) (L:List (Int×List Val)) (m:Mem):Prop where
 els:yCb m es L
 len:L.length<=5 ^ k
 row:∀p∈L,p.2.length=n
 lev:yMm (S.drop k) ((S.take k).map zMs).sum L=R
 fst:k≠0->es=L.map qE
 ne:L≠[]
theorem yQr (st:D) (data:List (List (Sl Val))) (b:Bnd) (l:List Int) (h:zQp st data) (hd:data.length<=1000) (ht:yMw data b.tabs.items) (hl:b.tabs.items.length<=3) (hl0:b.tabs.items≠[]) (hrs:∀rs∈data,rs.length<=5/\∀r∈rs,r.items≠[]/\r.items.length<=1000)
  (hwid:∀rs∈qH data b.tabs.items,∀r∈rs,r.items.length=zMs rs) (hn:yBx data b.tabs.items->b.vars.items.length=((qH data b.tabs.items).map zMs).sum) (hw:xEd l (tmD b.w.enc))
  (hr:∀r∈zAq ((qH data b.tabs.items).map λrs=>rs.map Sl.items) [],zIj l r) :
  zA (XG GK) TT 16 [st,yL b]=some (wW 1 ((zMt ((zAq ((qH data b.tabs.items).map λrs=>rs.map Sl.items) []).filter (mtB (tmD b.w.enc)))).map rv)):=by
 obtain⟨dB,hB,hcase⟩:=ySl (G:=GK) st data b h hd ht (by omega) (λrs hr=>⟨by have:=(hrs rs hr).1;omega,(hrs rs hr).2⟩)
 obtain⟨e,he,het⟩:=zKn b.w
 rw[<-het] at hw ⊢
 have hsb:=λg=>zAx (g:=g) b
 have hss:=h.strip
 refine zD T16 rfl (by simp only[zH,zR,yF,hss,hsb]) ?_
 unfold Tryz.f16 F16
 simp only[Option.getD_some,yL] at hB hsb ⊢
 have hst:st.isO=false:=by obtain⟨x,tabs,rfl,_⟩:=h.at_;rfl
 rcases hcase with⟨hfull,rfl⟩|⟨hfull,x,rfl,hx1,hx2⟩
 ·have hn:=hn hfull
  simp only[zYt,yL,zGh,List.cons_append,List.nil_append] at hB
  have hS:qH data b.tabs.items=qH data b.tabs.items:=rfl
  have hSl:(qH data b.tabs.items).length=b.tabs.items.length:=by simp[qH]
  have hSk:∀(k:Nat) (x:I64),b.tabs.items[k]?=some x->∃(i:Nat) (rs:List (Sl Val)),x.1=(i:Int)/\data[i]?=some rs/\(qH data b.tabs.items)[k]?=some rs/\rs≠[]:=λk x hx=>by
   obtain⟨i,hxi,hi⟩:=ht x (List.mem_of_getElem? hx)
   have hxn:x.1.toNat=i:=by omega
   refine⟨i,data[i],hxi,List.getElem?_eq_getElem hi,?_,hfull x (List.mem_of_getElem? hx) _ (by rw[hxn];exact List.getElem?_eq_getElem hi)⟩
   unfold qH
   rw[List.getElem?_map,hx]
   simp only[Option.map_some,hxn,List.getElem?_eq_getElem hi,Option.getD_some]
  have hWS:=yIk data b.tabs.items
  rw[hWS] at hB
  have hvs:b.vars.items.length<=3000:=by
   rw[hn,<-hWS]
   have:=zTo (λrs h=>⟨by have:=(hrs rs h).1;omega,(hrs rs h).2⟩) b.tabs.items
   omega
  generalize qH data b.tabs.items=S at *
  have hv:((b.vars.items.length:Int)<=16777216)=True:=eq_true (by omega)
  have hv2:(0<=(b.vars.items.length:Int))=True:=eq_true (by omega)
  have hlt:=b.tabs.lt
  have ta:∀P:Prop,(True/\P)=P:=λP=>propext ⟨λh=>h.2,λh=>⟨trivial,h⟩⟩
  simp +decide only[go_sem,ra]
  refine gw (an7 hB hsb hss hst hv hv2 ta) ?_
  have hflr:zV (List.replicate b.vars.items.length (D.agg [.int .i64 0,.int .i64 0,.str []]))=zV ((List.replicate b.vars.items.length nul).map vD):=by rw[List.map_replicate];rfl
  rw[hflr]
  generalize hnn:b.vars.items.length=n at *
  generalize hRR:yMm S 0 [(0,List.replicate n nul)]=R at *
  have hini:NvI data S n R 0 (some 0) [.agg [.int .i64 0,.rsl 0 0 n 3]] [(0,List.replicate n nul)] ⟨[zV ((List.replicate n nul).map vD)],[]⟩:=by
   refine⟨⟨rfl,λi p e=>?_⟩,by simp,λp hp=>by simp at hp;subst hp;simp,by rw[List.drop_zero];exact hRR,λh=>absurd rfl h,by simp⟩
   cases i with
   |zero=>simp at e;subst e;exact⟨.rsl 0 0 n 3,rfl,.inr ⟨0,by simp,rfl⟩⟩
   |succ i=>simp at e
  refine lpC (T:=Nat×Option Nat×List D×List (Int×List Val)×Mem) [0,3,5,7,31,32,33] (λp=>[(33,.int .i64 (p.1:Int)),(7,.slice p.2.1 2 p.2.2.1)]) (λ_=>[]) (λp=>p.2.2.2.2) (λp=>p.1<=b.tabs.items.length/\NvI data S n R p.1 p.2.1 p.2.2.1 p.2.2.2.1 p.2.2.2.2) (λp=>b.tabs.items.length-p.1) (0,some 0,[.agg [.int .i64 0,.rsl 0 0 n 3]],[(0,List.replicate n nul)],⟨[zV ((List.replicate n nul).map vD)],[]⟩) (by exact⟨Nat.zero_le _,hini⟩) ?_
  rintro ⟨k,t,es,L,m⟩ ⟨hk,hI⟩
  simp only at hk hI ⊢
  have hso:st.okC=true/\st.cells=[st]:=by obtain⟨x,tabs,rfl,_⟩:=h.at_;exact⟨rfl,rfl⟩
  by_cases hkl:k<b.tabs.items.length
  ·obtain⟨l_x,x,g_x,w_x⟩:=elm (L:=b.tabs.items) (k:=k) (by assumption) (by omega)
   obtain⟨i,rs,hxi,hri,hSi,hne⟩:=hSk k x g_x
   obtain⟨hr5,hrr⟩:=hrs rs (List.mem_of_getElem? hri)
   have hWk:(S.map zMs)[k]?=some (zMs rs):=by rw[List.getElem?_map,hSi];rfl
   obtain⟨sm1,sm2⟩:=yMx (S.map zMs) k (zMs rs) hWk
   have hFk:=yNl (S.map zMs) 0 k (List.getElem?_eq_some_iff.1 hWk).1
   rw[Nat.zero_add] at hFk
   have hF0:=λg=>zKp g (S.map zMs) 0
   have hlev:=hI.lev
   have hSd:S.drop k=rs::S.drop (k+1):=by
    obtain⟨h1,h2⟩:=List.getElem?_eq_some_iff.1 hSi
    rw[List.drop_eq_getElem_cons h1,h2]
   rw[hSd,List.map_take,yMm,<-sm1] at hlev
   have hwd:=hwid rs (List.mem_of_getElem? hSi)
   have hw1:1<=zMs rs:=by
    obtain⟨r,hrm⟩:=List.exists_mem_of_ne_nil _ hne
    have:=List.length_pos_iff.2 (hrr r hrm).1
    rw[hwd r hrm] at this;exact this
   rw[<-hn] at sm2
   generalize ((S.map zMs).take k).sum=off at *
   generalize hFF:zMu (S.map zMs) 0=F at *
   have hpw:5 ^ k<=25:=Nat.pow_le_pow_right (n:=5) (by decide) (show k<=2 by omega)
   have hLl:=hI.len
   have hesl:=hI.els.1
   refine gw (an9 hB hsb hss hst hv hv2 ta l_x (an3 g_x w_x hxi)) ?_
   refine lpC (T:=Nat×Nat×Mem) [0,3,5,8,9,10,31,32,33,38,39,40] (λq=>[(40,.int .i64 (q.1:Int)),(10,vdK 2 q.2.1 ((uH (L.take q.1) off rs).map qE))]) (λ_=>[]) (λq=>q.2.2) (λq=>q.1<=L.length/\(∀id,id<m.boxes.length->q.2.2.boxes[id]?=m.boxes[id]?)/\m.boxes.length<=q.2.2.boxes.length/\(q.1≠0->q.2.2.toks[q.2.1]?=some (uH (L.take q.1) off rs).length)) (λq=>L.length-q.1) (0,0,m) (by exact⟨Nat.zero_le _,λ_ _=>rfl,Nat.le_refl _,λh=>absurd rfl h⟩) ?_
   rintro ⟨j,tok,m1⟩ ⟨hj,hold,hml,htok⟩
   simp only at hj hold hml htok ⊢
   by_cases hjl:j<L.length
   ·obtain⟨p,hp⟩:∃p,L[j]?=some p:=⟨_,List.getElem?_eq_getElem hjl⟩
    obtain⟨cD,hes,hrow⟩:=(hI.els.keep hold).2 j p hp
    have hpn:=hI.row p (List.mem_of_getElem? hp)
    have l1:((j:Int)<(es.length:Int))=True:=eq_true (by omega)
    have wj:=yU j (by omega)
    obtain⟨a1,c1,b1,y1,h39,hy1⟩:=zWu (G:=GK) m1 st data h hd i rs hri
    have h40:=yYe (G:=GK) a1 rs c1 b1 y1 hy1
    have hts:zF noR (zBf a1 rs c1 b1 y1)=zBf a1 rs c1 b1 y1:=by rw[qL,hy1]
    obtain⟨d2,m2,h38,hf2,hk2,ht2,hl2⟩:=yJc (G:=GK) m1 st cD b F p.2 k off a1 rs c1 b1 y1 hy1 hss hso hF0 hFk hrow (by intro e;rw[e] at hpn;simp at hpn;omega) (by omega) (by omega) (λr hr=>⟨(hrr r hr).1,(hrr r hr).2,by rw[hwd r hr,hpn];exact sm2⟩)
    simp only[zYt,yL,zGh,List.cons_append,List.nil_append] at h38
    have hdn:d2.isO=false:=by rcases hf2 with⟨_,rfl⟩|⟨_,id,rfl,_⟩<;>rfl
    have hel:=yRo hf2
    have hev:=qW m2 2 tok ((uH (L.take j) off rs).map qE)
    have hst1:=zZq (off:=off) (rs:=rs) hp
    have hal:=zJd p.2 off rs rs.length (Nat.le_refl _)
    have hrl:=List.length_pos_iff.2 hne
    have hsl:=zRa (L.take j) off rs
    rw[List.length_take,Nat.min_eq_left (by omega)] at hsl
    have hsb2:(uH (L.take j) off rs).length<=125:=by
     rw[hsl]
     calc j*rs.length<=25*5:=Nat.mul_le_mul (by omega) hr5
      _<=125:=by decide
    obtain⟨tok',tk',ha,htk'⟩:=yLx 2 tok m2.toks ((uH (L.take j) off rs).map qE) ((zQg p.2 off rs rs.length).map qE) (by
     intro e
     have:=congrArg List.length e
     rw[List.length_map,hal] at this
     simp at this;exact hne this) (λe=>by
     rw[List.length_map]
     refine ht2 _ _ (htok λe0=>e ?_)
     subst e0;rfl)
    have ha:=ha m2.boxes
    rw[<-List.map_append,<-hst1] at ha htk'
    rw[List.length_map] at htk'
    have hm2:(⟨m2.boxes,m2.toks⟩:Mem)=m2:=rfl
    rw[hm2] at ha
    have hf1:((uH (L.take j) off rs).map qE).length=(uH (L.take j) off rs).length:=List.length_map ..
    have hf3:((zQg p.2 off rs rs.length).map qE).length=rs.length:=by rw[List.length_map,hal]
    have z3:((uH (L.take j) off rs).length+rs.length<=16777216)=True:=eq_true (by omega)
    have hcn:=hrow.no
    obtain⟨hcn1,hcn2⟩:=hrow.ok
    generalize (uH (L.take j) off rs).map qE=N1 at *
    generalize (zQg p.2 off rs rs.length).map qE=X1 at *
    refine gw (an9 hB hsb hss hst hv hv2 ta l_x (an9 g_x w_x l1 wj hes hcn hcn1 hcn2 (an9 h39 hts h40 h38 hdn hel hev hf1 (an3 hf3 z3 ha)))) ?_
    exact⟨(j+1,tok',⟨m2.boxes,tk'⟩),by simp +decide only[go_sem]<;>rfl,⟨hjl,λid hid=>(hk2 id (by omega)).trans (hold id hid),by show m.boxes.length<=m2.boxes.length;omega,λ_=>htk'⟩,by simp only;omega⟩
   ·have l1:((j:Int)<(es.length:Int))=False:=eq_false (by omega)
    obtain rfl:j=L.length:=by omega
    rw[List.take_length]
    have hsl:=zRa L off rs
    have hLp:=List.length_pos_iff.2 hI.ne
    have hrl:=List.length_pos_iff.2 hne
    have hsp:0<(uH L off rs).length:=by rw[hsl];exact Nat.mul_pos hLp hrl
    have hvd:vdK 2 tok ((uH L off rs).map qE)=.slice (some (tok+1)) 2 ((uH L off rs).map qE):=by
     cases hs:uH L off rs with
     |nil=>rw[hs] at hsp;simp at hsp
     |cons a r=>rfl
    rw[hvd]
    refine gw (an9 hB hsb hss hst hv hv2 ta l_x (an3 g_x w_x l1)) ?_
    refine⟨(k+1,some (tok+1),(uH L off rs).map qE,uH L off rs,m1),by simp +decide only[go_sem]<;>rfl,⟨hkl,yRw m1 _,?_,?_,?_,λ_=>rfl,List.length_pos_iff.1 hsp⟩,by simp only;omega⟩
    ·show (uH L off rs).length<=5 ^ (k+1)
     rw[hsl,Nat.pow_succ];exact Nat.mul_le_mul hLl hr5
    ·exact yEr hI.row λr hr=>by rw[hwd r hr];exact sm2
    ·show yMm (S.drop (k+1)) ((S.take (k+1)).map zMs).sum (uH L off rs)=R
     rw[List.map_take];exact hlev
  ·have l_x:((k:Int)<((b.tabs.items).length:Int))=False:=by simp;omega
   obtain rfl:k=b.tabs.items.length:=by omega
   have hkne:b.tabs.items.length≠0:=λe=>hl0 (List.eq_nil_of_length_eq_zero e)
   have hes:=hI.fst hkne
   have hlev:=hI.lev
   have hSd:S.drop b.tabs.items.length=[]:=List.drop_eq_nil_of_le (by omega)
   rw[hSd,yMm] at hlev
   have hLl:=hI.len
   have hpw:5 ^ b.tabs.items.length<=125:=Nat.pow_le_pow_right (n:=5) (by decide) hl
   have hRow:=hI.row
   subst hes
   clear hI
   subst hlev
   have hC:L.map Prod.snd=zAq (S.map λrs=>rs.map Sl.items) []:=by
    rw[<-hRR,zXl]
    have:=zXk (S.map λrs=>rs.map Sl.items) [] n (λrs hrs' r hr'=>by
     obtain⟨rs',h1,rfl⟩:=List.mem_map.1 hrs'
     obtain⟨r',h2,rfl⟩:=List.mem_map.1 hr'
     rw[yCd];exact hwid rs' h1 r' h2) (by
     unfold yBs
     rw[List.map_map,hn]
     congr 1
     refine List.map_congr_left λrs _=>yCd rs)
    exact this
   rw[<-hC] at hr ⊢
   clear hRR hC
   have hst3:∀(g:Nat->Nat->Nat->Nat->D) (x:List Val),zC g (x.map vD)=x.map vD:=λg x=>zL vD (λv=>yW v) x
   have hnl:((n:Nat)<=3000)=True:=eq_true hvs
   have hml:(L.map qE).length=L.length:=List.length_map ..
   refine gw (an8 hB hsb hss hst hv hv2 ta l_x) ?_
   refine lpC (T:=Nat×D×Mem) [3,13,58,59,60] (λq=>[(60,.int .i64 (q.1:Int)),(13,q.2.1)]) (λ_=>[]) (λq=>q.2.2) (λq=>q.1<=L.length/\yYf q.2.2 q.2.1 (((L.take q.1).map Prod.snd).filter (mtB (tmE e)))) (λq=>L.length-q.1) (0,.nil,m) (by exact⟨Nat.zero_le _,.inl ⟨rfl,rfl⟩⟩) ?_
   rintro ⟨j,o,m1⟩ ⟨hj,hO⟩
   simp only at hj hO ⊢
   have hon:o.isO=false:=by rcases hO with⟨_,rfl⟩|⟨_,id,rfl,_⟩<;>rfl
   by_cases hjl:j<L.length
   ·obtain⟨p,hp⟩:∃p,L[j]?=some p:=⟨_,List.getElem?_eq_getElem hjl⟩
    have hpm:=List.mem_of_getElem? hp
    have hpn:=hRow p hpm
    have hep:(L.map qE)[j]?=some (.agg [.int .i64 p.1,.slice none 3 (p.2.map vD)]):=by rw[List.getElem?_map,hp];rfl
    have l1:((j:Int)<((L.map qE).length:Int))=True:=eq_true (by omega)
    have wj:=yU j (by omega)
    have hmt:=yQu l (slV p.2 (by omega)) (hr p.2 (List.mem_map.2 ⟨p,hpm,rfl⟩)) e hw
    rw[he] at hmt
    simp only[yCg,zKt] at hmt
    have hsn:((L.take (j+1)).map Prod.snd).filter (mtB (tmE e))=((L.take j).map Prod.snd).filter (mtB (tmE e))++if mtB (tmE e) p.2 then[p.2] else[]:=by
     rw[List.take_add_one,hp,List.map_append,List.filter_append]
     simp only[Option.toList_some,List.map_cons,List.map_nil,List.filter_cons,List.filter_nil]
    have hfl:(((L.take j).map Prod.snd).filter (mtB (tmE e))).length<=L.length:=Nat.le_trans (List.length_filter_le ..) (by rw[List.length_map,List.length_take];omega)
    obtain⟨m3,f1,f2,f3,f4,f5,f6⟩:=yQk m1 o (((L.take j).map Prod.snd).filter (mtB (tmE e))) p.2 hO
    have hfm:((((L.take j).map Prod.snd).filter (mtB (tmE e))).map rv).length=(((L.take j).map Prod.snd).filter (mtB (tmE e))).length:=List.length_map ..
    have z3:((((L.take j).map Prod.snd).filter (mtB (tmE e))).length+1<=16777216)=True:=eq_true (by omega)
    have hrv:rv p.2=.slice none 3 (p.2.map vD):=rfl
    rw[hrv] at f2
    generalize hQQ:((L.take j).map Prod.snd).filter (mtB (tmE e))=Q at *
    generalize hES:L.map qE=ES at *
    cases cm:(mtB (tmE e) p.2)
    ·rw[cm] at hsn
     refine gw (an9 hB hsb hss hst hv hv2 ta l_x (an7 l1 wj hep hmt hst3 hon cm)) ?_
     refine⟨(j+1,o,m1),by simp +decide only[go_sem]<;>rfl,⟨hjl,?_⟩,by simp only;omega⟩
     simp only[hsn,Bool.false_eq_true,if_false,List.append_nil]
     exact hO
    ·rw[cm] at hsn
     refine gw (an9 hB hsb hss hst hv hv2 ta l_x (an9 l1 wj hep hmt hst3 hon cm f1 (an3 f2 hfm z3))) ?_
     refine⟨(j+1,.rsl m1.boxes.length 0 (Q.length+1) 1,m3),by simp +decide only[go_sem]<;>rfl,⟨hjl,?_⟩,by simp only;omega⟩
     simp only[hsn,if_true]
     exact .inr ⟨by simp,m1.boxes.length,by simp,f5⟩
   ·have l1:((j:Int)<((L.map qE).length:Int))=False:=eq_false (by omega)
    obtain rfl:j=L.length:=by omega
    rw[List.take_length] at hO
    have hQl:((L.map Prod.snd).filter (mtB (tmE e))).length<=125:=Nat.le_trans (List.length_filter_le ..) (by rw[List.length_map];omega)
    have hQr:∀r∈(L.map Prod.snd).filter (mtB (tmE e)),r.length<=100000:=λr hr'=>by
     obtain⟨p,hp,rfl⟩:=List.mem_map.1 (List.mem_filter.1 hr').1
     have:=hRow p hp
     omega
    generalize (L.map Prod.snd).filter (mtB (tmE e))=Q at *
    rcases hO with⟨rfl,rfl⟩|⟨hQ,id,rfl,hb⟩
    ·obtain⟨d1,hs⟩:=zZs (G:=GK) m1
     refine gw (an9 hB hsb hss hst hv hv2 ta l_x (an l1 hs)) ?_
     simp +decide only[go_sem]
     rfl
    ·obtain⟨d1,Q',hs,hp,ha⟩:=yYw (G:=GK) m1 id Q hb hQr (by omega)
     have hu:Q'=zMt Q:=zZr ha (yJg vW Q) (hp.trans (zFs vW Q).symm)
     have hlq:Q.length=Q'.length:=hp.length_eq.symm
     have hid:=(List.getElem?_eq_some_iff.1 hb).1
     refine gw (an9 hB hsb hss hst hv hv2 ta l_x (an l1 hs)) ?_
     simp +decide only[go_sem]
     have hbx:uN ⟨m1.boxes.set id (Q'.map rv),m1.toks⟩ id=some (zV (Q'.map rv)):=by
      rw[zUg]
      exact wQ (List.getElem?_set_self hid) (zHl _)
     rw[<-hu]
     refine(zUc (k:=1) (f:=rv) (l:=Q') (n:=Q.length) hbx hlq (λ_=>rfl) (λ_=>rfl) (λ_ x=>congrArg (λd=>[d]) (zDi x))).trans ?_
     cases Q' with
     |nil=>exact absurd (List.eq_nil_of_length_eq_zero hlq) hQ
     |cons a r=>rfl
 ·have hcmb:zAq ((qH data b.tabs.items).map λrs=>rs.map Sl.items) []=[]:=zSf _ _ (by
   obtain⟨x,hx,rs,hrs,he⟩:∃x∈b.tabs.items,∃rs,data[x.1.toNat]?=some rs/\rs=[]:=Classical.byContradiction λhc=>hfull λx hx rs h1 h2=>hc ⟨x,hx,rs,h1,h2⟩
   subst he
   refine List.mem_map.2 ⟨[],?_,rfl⟩
   refine List.mem_map.2 ⟨x,hx,?_⟩
   rw[hrs];rfl)
  rw[hcmb]
  refine gw (an6 hB hsb hss hst hx1 hx2) ?_
  simp +decide only[go_sem]
  rfl
end Go.Eng
