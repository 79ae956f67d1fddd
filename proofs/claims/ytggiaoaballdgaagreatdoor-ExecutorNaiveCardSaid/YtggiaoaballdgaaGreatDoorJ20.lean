/- A part of the proof: see the last text. -/
import Derived.Test.YtggiaoaballdgaaGreatDoorJ19
set_option linter.unusedSimpArgs false
set_option linter.unusedVariables false
namespace Go.Eng
open Go Go.Proofs
variable {G:Nat->Option (List D)}
def xV.setT (S:xV) (k:Nat) (x:IxS) (T:TrL):xV:={ S with ix:=S.ix.set k { x with T:=T } }
theorem zVh {l:List IxS} {k:Nat} {x:IxS} (h:l[k]?=some x):uO l=uO (l.take k)++(x.T.ids++uO (l.drop (k+1))):=by
 have hk:=(List.getElem?_eq_some_iff.1 h)
 have:l=l.take k++x::l.drop (k+1):=by
  rw[<-hk.2,<-List.drop_eq_getElem_cons hk.1,List.take_append_drop]
 conv=>lhs;rw[this]
 simp[uO]
theorem yFi {l:List IxS} {k:Nat} {x y:IxS} (h:l[k]?=some x):uO (l.set k y)=uO (l.take k)++(y.T.ids++uO (l.drop (k+1))):=by
 have hk:=(List.getElem?_eq_some_iff.1 h).1
 rw[List.set_eq_take_append_cons_drop,if_pos hk]
 simp[uO]
theorem TrN.mono {m:Mem} {T:TrL} {n n':Nat} (h:TrN m T n) (hn:n<=n'):TrN m T n':=by
 obtain⟨⟨ks,vs,h1,h2⟩,h3⟩:=h
 exact⟨⟨ks,vs,h1,by omega⟩,h3⟩
theorem xAa {m m':Mem} {S:xV} {k:Nat} {x:IxS} {T:TrL} (h:wG m S) (hx:S.ix[k]?=some x) (ht:T.t=x.T.t) (hN:TrN m' T S.rows.length) (hF:Fr x.T.ids T.ids [] [] m m') (htk:m'.toks=m.toks) :
  wG m' (S.setT k x T)/\Fr S.ids (S.setT k x T).ids S.tks (S.setT k x T).tks m m'/\(S.setT k x T).ix.map ixE=S.ix.map ixE/\∀(i:Nat) (y:IxS),i≠k->(S.setT k x T).ix[i]?=some y->S.ix[i]?=some y/\∀id∈y.T.ids,m'.boxes[id]?=m.boxes[id]?:=by
 have hkl:=(List.getElem?_eq_some_iff.1 hx).1
 have hmap:(S.setT k x T).ix.map ixE=S.ix.map ixE:=by
  show (S.ix.set k _).map ixE=_
  rw[List.map_set]
  have:ixE { x with T:=T }=ixE x:=by simp only[ixE,ht]
  rw[this]
  apply List.ext_getElem?
  intro i
  by_cases e:k=i
  ·subst e;rw[List.getElem?_set_self (by simpa using hkl),List.getElem?_map,hx];rfl
  ·rw[List.getElem?_set_ne e]
 have hids:S.ids=(S.s::S.T.ids++uO (S.ix.take k))++(x.T.ids++uO (S.ix.drop (k+1))):=by
  simp only[xV.ids,zVh hx,List.cons_append,List.append_assoc]
 have hids':(S.setT k x T).ids=(S.s::S.T.ids++uO (S.ix.take k))++(T.ids++uO (S.ix.drop (k+1))):=by
  show S.s::(S.T.ids++uO (S.ix.set k _))=_
  rw[yFi hx]
  simp only[List.cons_append,List.append_assoc]
 have htks:(S.setT k x T).tks=S.tks:=by
  show tkR S.tok S.rows++tkR S.itok ((S.setT k x T).ix.map ixE)=_
  rw[hmap];rfl
 have hnd:=h.nd
 rw[hids] at hnd
 have hlt:=h.lt
 have hdis:∀id∈S.s::S.T.ids++uO (S.ix.take k),id∉x.T.ids:=by
  intro id hid hc
  exact(List.nodup_append.1 hnd).2.2 id hid id (List.mem_append_left _ hc) rfl
 have hdis2:∀id∈uO (S.ix.drop (k+1)),id∉x.T.ids:=by
  intro id hid hc
  exact(List.nodup_append.1 (List.nodup_append.1 hnd).2.1).2.2 id hc id hid rfl
 have hkeep:∀id∈S.ids,id∉x.T.ids->m'.boxes[id]?=m.boxes[id]?:=λid h1 h2=>hF.keep id (hlt id h1) h2
 have hoth:∀(i:Nat) (y:IxS),i≠k->S.ix[i]?=some y->∀id∈y.T.ids,id∈S.ids/\id∉x.T.ids:=by
  intro i y hik hy id hid
  have hmem:id∈uO (S.ix.take k)\/id∈uO (S.ix.drop (k+1)):=by
   by_cases hlt':i<k
   ·left
    exact List.mem_flatMap.2 ⟨y,List.mem_of_getElem? (i:=i) (by rw[List.getElem?_take_of_lt hlt'];exact hy),hid⟩
   ·right
    exact List.mem_flatMap.2 ⟨y,List.mem_of_getElem? (i:=i-(k+1)) (by rw[List.getElem?_drop,show k+1+(i-(k+1))=i by omega];exact hy),hid⟩
  rw[hids]
  rcases hmem with h1|h1
  ·exact⟨List.mem_append_left _ (List.mem_append_right _ h1),hdis id (List.mem_append_right _ h1)⟩
  ·exact⟨List.mem_append_right _ (List.mem_append_right _ h1),hdis2 id h1⟩
 refine⟨⟨?_,?_,?_,?_,?_,?_⟩,⟨hF.len,hF.tlen,?_,?_,?_,?_⟩,hmap,?_⟩
 ·obtain⟨n,hs⟩:=h.hs
  refine⟨n,?_⟩
  rw[hmap]
  exact(hkeep S.s (by simp[xV.ids]) (hdis S.s (by simp))).trans hs
 ·exact h.tr.keep (λid hi=>hkeep _ (by simp[xV.ids,hi]) (hdis _ (by simp[hi]))) (λid _=>by rw[htk])
 ·intro hne
  show m'.toks[S.itok]?=some (S.ix.set k _).length
  rw[htk,List.length_set]
  exact h.it (by intro e;rw[e] at hx;simp at hx)
 ·intro y hy
  obtain⟨i,hi,hiy⟩:=List.mem_iff_getElem.1 hy
  have hiy':(S.setT k x T).ix[i]?=some y:=by rw[List.getElem?_eq_getElem hi,hiy]
  by_cases e:k=i
  ·subst e
   have hiy':(S.ix.set k { x with T:=T })[k]?=some y:=hiy'
   rw[List.getElem?_set_self hkl] at hiy'
   cases hiy'
   exact⟨hN,(h.ih x (List.mem_of_getElem? hx)).2⟩
  ·have hiy2:(S.ix.set k { x with T:=T })[i]?=some y:=hiy'
   rw[List.getElem?_set_ne e] at hiy2
   refine⟨(h.ih y (List.mem_of_getElem? hiy2)).1.keep λid hid=>?_,(h.ih y (List.mem_of_getElem? hiy2)).2⟩
   obtain⟨z1,z2⟩:=hoth i y (λe'=>e e'.symm) hiy2 id hid
   exact hkeep id z1 z2
 ·rw[hids']
  exact zKi hnd (n:=m.boxes.length) (by rw[<-hids];exact hlt) hN.nd hF.sub
 ·rw[htks];exact h.tnd
 ·intro id h1 h2
  exact hF.keep id h1 λe=>h2 (by rw[hids];simp[e])
 ·intro id h1 _;rw[htk]
 ·intro id hi
  rw[hids'] at hi
  simp only[List.mem_append] at hi
  rcases hi with hi|hi|hi
  ·exact .inl (by rw[hids];simp only[List.mem_append];exact .inl hi)
  ·rcases hF.sub id hi with h1|h1
   ·exact .inl (by rw[hids];simp[h1])
   ·exact .inr h1
  ·exact .inl (by rw[hids];simp[hi])
 ·intro id hi;rw[htks] at hi;exact .inl hi
 ·intro i y hik hy
  have hy2:(S.ix.set k { x with T:=T })[i]?=some y:=hy
  rw[List.getElem?_set_ne (λe=>hik e.symm)] at hy2
  refine⟨hy2,λid hid=>?_⟩
  obtain⟨z1,z2⟩:=hoth i y hik hy2 id hid
  exact hkeep id z1 z2
theorem wG.next {m:Mem} {S:xV} (h:wG m S) (n:Int):wG ⟨m.boxes.set S.s [.int .i64 (S.cols:Int),.ptr S.T.t 0,.int .i64 n,vdK 2 S.itok (S.ix.map ixE)],m.toks⟩ S/\Fr S.ids S.ids S.tks S.tks m ⟨m.boxes.set S.s [.int .i64 (S.cols:Int),.ptr S.T.t 0,.int .i64 n,vdK 2 S.itok (S.ix.map ixE)],m.toks⟩:=by
 have hset:∀x id,id≠S.s->(m.boxes.set S.s x)[id]?=m.boxes[id]?:=λx id h=>List.getElem?_set_ne (λe=>h e.symm)
 have hnd:=h.nd
 simp only[xV.ids,List.nodup_cons,List.mem_append,not_or] at hnd
 refine⟨⟨⟨n,List.getElem?_set_self (h.lt _ (by simp[xV.ids]))⟩,?_,h.it,?_,h.nd,h.tnd⟩,⟨by simp,Nat.le_refl _,?_,λ_ _ _=>rfl,λ_ h=>.inl h,λ_ h=>.inl h⟩⟩
 ·exact h.tr.keep (λid hi=>hset _ _ λe=>hnd.1.1 (e▸hi)) (λ_ _=>rfl)
 ·intro x hx
  exact⟨(h.ih x hx).1.keep λid hi=>hset _ _ λe=>hnd.1.2 (e▸List.mem_flatMap.2 ⟨x,hx,hi⟩),(h.ih x hx).2⟩
 ·intro id _ h2
  exact hset _ _ λe=>h2 (by simp[xV.ids,e])
end Go.Eng
namespace Go.Eng
open Go Go.Proofs
open Nat renaming reduceAdd → ra, reduceMul → rb, reduceSub → rc
set_option maxRecDepth 20000
set_option maxHeartbeats 32000000
attribute [local irreducible] wpI xU
variable {G:Nat->Option (List D)}
theorem yIl {v:Val} (h:zQc v=true):v.s.length<=16:=by
 unfold zQc at h
 cases h0:v.k==0
 ·cases h1:v.k==1
  ·cases h2:v.k==2
   ·rw[h0,h1,h2] at h;cases h
   ·rw[h0,h1,h2] at h
    simp only[cond_false,cond_true,Bool.and_eq_true,decide_eq_true_eq] at h
    omega
  ·rw[h0,h1] at h
   simp only[cond_false,cond_true,beq_iff_eq] at h
   rw[h];decide
 ·rw[h0] at h
  simp only[cond_true,Bool.and_eq_true,beq_iff_eq] at h
  rw[h.2];decide
theorem yJn {m m':Mem} {S:xV} {T:TrL} {tok:Nat} {row:D} (h:wG m S) (ht:T.t=S.T.t) (hR:TrR m' T tok (S.rows++[row])) (hF:Fr S.T.ids T.ids (tkR S.tok S.rows) [tok] m m') :
  wG m' { S with T:=T,tok:=tok,rows:=S.rows++[row] }/\Fr S.ids (xV.ids { S with T:=T,tok:=tok,rows:=S.rows++[row] }) S.tks (xV.tks { S with T:=T,tok:=tok,rows:=S.rows++[row] }) m m'/\∀x∈S.ix,TrN m' x.T S.rows.length:=by
 have hnd:=h.nd
 have hids:S.ids=[S.s]++(S.T.ids++uO S.ix):=rfl
 have hids':xV.ids { S with T:=T,tok:=tok,rows:=S.rows++[row] }=[S.s]++(T.ids++uO S.ix):=rfl
 have htk':xV.tks { S with T:=T,tok:=tok,rows:=S.rows++[row] }=[]++([tok]++tkR S.itok (S.ix.map ixE)):=by
  show tkR tok (S.rows++[row])++_=_
  rw[tkR_app];rfl
 have htks:S.tks=[]++(tkR S.tok S.rows++tkR S.itok (S.ix.map ixE)):=rfl
 have hlt:=h.lt
 have htl:=h.tlt
 rw[hids] at hnd
 have h1:S.s∉S.T.ids:=λhc=>(List.nodup_append.1 hnd).2.2 S.s (by simp) S.s (List.mem_append_left _ hc) rfl
 have h2:∀id∈uO S.ix,id∉S.T.ids:=λid hi hc=>(List.nodup_append.1 (List.nodup_append.1 hnd).2.1).2.2 id hc id hi rfl
 have htnd:=h.tnd
 rw[htks] at htnd
 have h3:∀id∈tkR S.itok (S.ix.map ixE),id∉tkR S.tok S.rows:=λid hi hc=>(List.nodup_append.1 (List.nodup_append.1 htnd).2.1).2.2 id hc id hi rfl
 have hkeep:∀id∈S.ids,id∉S.T.ids->m'.boxes[id]?=m.boxes[id]?:=λid h1 h2=>hF.keep id (hlt id h1) h2
 have hN:∀x∈S.ix,TrN m' x.T S.rows.length:=λx hx=>(h.ih x hx).1.keep λid hi=>by
  have:id∈uO S.ix:=List.mem_flatMap.2 ⟨x,hx,hi⟩
  exact hkeep id (by rw[hids];simp[this]) (h2 id this)
 refine⟨⟨?_,hR,?_,λx hx=>⟨(hN x hx).mono (by simp),(h.ih x hx).2⟩,?_,?_⟩,⟨hF.len,hF.tlen,?_,?_,?_,?_⟩,hN⟩
 ·obtain⟨n,hs⟩:=h.hs
  refine⟨n,?_⟩
  show m'.boxes[S.s]?=some [_,.ptr T.t 0,_,_]
  rw[ht]
  exact(hkeep S.s (by simp[xV.ids]) h1).trans hs
 ·intro hne
  have hne':S.ix≠[]:=hne
  have hm:S.itok∈tkR S.itok (S.ix.map ixE):=zKa (by simpa using hne')
  exact(hF.tkeep S.itok (htl _ (by rw[htks];simp[hm])) (h3 _ hm)).trans (h.it hne')
 ·rw[hids']
  exact zKi hnd (n:=m.boxes.length) (by rw[<-hids];exact hlt) hR.nd hF.sub
 ·rw[htk']
  exact zKi htnd (n:=m.toks.length) (by rw[<-htks];exact htl) (by simp) hF.tsub
 ·intro id g1 g2
  exact hF.keep id g1 λe=>g2 (by rw[hids];simp[e])
 ·intro id g1 g2
  exact hF.tkeep id g1 λe=>g2 (by rw[htks];simp[e])
 ·intro id hi
  rw[hids'] at hi
  simp only[List.mem_append] at hi
  rcases hi with hi|hi|hi
  ·exact .inl (by rw[hids];simp only[List.mem_append];exact .inl hi)
  ·rcases hF.sub id hi with h|h
   ·exact .inl (by rw[hids];simp[h])
   ·exact .inr h
  ·exact .inl (by rw[hids];simp[hi])
 ·intro id hi
  rw[htk'] at hi
  simp only[List.nil_append,List.mem_append] at hi
  rcases hi with hi|hi
  ·rcases hF.tsub id hi with h|h
   ·exact .inl (by rw[htks];simp[h])
   ·exact .inr h
  ·exact .inl (by rw[htks];simp[hi])
structure PtI (m0 m:Mem) (S0 S:xV) (rows:List D) (k:Nat):Prop where
 at_:wG m S
 s:S.s=S0.s
 cols:S.cols=S0.cols
 rows:S.rows=rows
 ixm:S.ix.map ixE=S0.ix.map ixE
 rest:∀(i:Nat) (x:IxS),k<=i->S.ix[i]?=some x->TrN m x.T S0.rows.length
 fr:Fr S0.ids S.ids S0.tks S.tks m0 m
theorem xLw (m:Mem) (S:xV) (r:Sl Val) (h:wG m S) (hne:r.items≠[]) (hok:okR S.cols r.items=true) (hl:S.rows.length<15) (hrl:r.items.length<=1000) (hil:S.ix.length<=1000) :
  ∃m' S' rt,zG (XG G) TT 48 m [.ptr S.s 0,.int .i64 ((S.rows.length+1:Nat):Int),sl 3 vD r]=some (.int .i64 0,m')/\wG m' S'/\S'.s=S.s/\S'.cols=S.cols/\S'.rows=S.rows++[.slice (some rt) 3 (r.items.map vD)]/\S'.ix.length=S.ix.length/\Fr S.ids S'.ids S.tks S'.tks m m':=by
 suffices hh:∃d m',zG (XG G) TT 48 m [.ptr S.s 0,.int .i64 ((S.rows.length+1:Nat):Int),sl 3 vD r]=some (d,m')/\∃(S':xV) (rt:Nat),d=.int .i64 0/\wG m' S'/\S'.s=S.s/\S'.cols=S.cols/\S'.rows=S.rows++[.slice (some rt) 3 (r.items.map vD)]/\S'.ix.length=S.ix.length/\Fr S.ids S'.ids S.tks S'.tks m m' by
  obtain⟨d,m',h1,S',rt,rfl,h2⟩:=hh;exact⟨m',S',rt,h1,h2⟩
 have hv16:∀v∈r.items,v.s.length<=16:=λv hv=>yIl (List.all_eq_true.1 (by unfold okR at hok;simp only[Bool.and_eq_true] at hok;exact hok.2) v hv)
 obtain⟨n,hs⟩:=h.hs
 have hst:=yYq (G:=G) m S.s S.cols _ _ _ r hs (λv hv=>by have:=hv16 v hv;omega)
 rw[hok] at hst
 have hdel:=xPf (G:=G) m S h (by omega)
 obtain⟨rt,tk,hcl⟩:=yEa (G:=G) m r (by omega)
 have hrD:slT (some rt) 3 vD r=.slice (some rt) 3 (r.items.map vD):=by
  unfold slT Sl.items
  cases e:r.1 with
  |none=>exact absurd (by unfold Sl.items;rw[e];rfl) hne
  |some l=>rfl
 rw[hrD] at hcl
 have hm1:=h.more [] tk
 rw[List.append_nil] at hm1
 have hf1:=zWa S.ids S.tks m [] tk
 rw[List.append_nil] at hf1
 obtain⟨d2,m2,T2,tok2,hput,ht2,hR2,hF2⟩:=xLv (G:=G) ⟨m.boxes,m.toks++tk⟩ S.T S.tok S.rows (.slice (some rt) 3 (r.items.map vD)) hm1.tr hl ⟨_,_,_,rfl⟩
 obtain⟨hA2,hFr2,hN2⟩:=yJn hm1 ht2 hR2 hF2
 have hI:PtI m m2 S { S with T:=T2,tok:=tok2,rows:=S.rows++[.slice (some rt) 3 (r.items.map vD)] } (S.rows++[.slice (some rt) 3 (r.items.map vD)]) 0:=⟨hA2,rfl,rfl,rfl,rfl,λi x _ hx=>hN2 x (List.mem_of_getElem? hx),hf1.trans hFr2⟩
 have l1:(((S.rows.length+1:Nat):Int)<1)=False:=eq_false (by omega)
 have l2:((4611686018427387904:Int)<((S.rows.length+1:Nat):Int))=False:=eq_false (by omega)
 obtain⟨n2,hs2⟩:=hA2.hs
 have hs2:m2.boxes[S.s]?=some [.int .i64 (S.cols:Int),.ptr T2.t 0,.int .i64 n2,vdK 2 S.itok (S.ix.map ixE)]:=hs2
 have hln:=λP u=>zIx P u 2 S.itok (S.ix.map ixE)
 have hml:(S.ix.map ixE).length=S.ix.length:=List.length_map ..
 refine zO T48 rfl ?_
 unfold Tryz.f48 F48
 simp only[Option.getD_some]
 simp +decide only[go_sem,ra]
 refine gw (an9 hs hst hdel hcl hput l1 l2 hs2 (an hln hml)) ?_
 refine lpC (T:=Nat×Mem×xV) [0,1,2,36,37,38] (λp=>[(38,.int .i64 (p.1:Int))]) (λ_=>[]) (λp=>p.2.1) (λp=>p.1<=S.ix.length/\PtI m p.2.1 S p.2.2 (S.rows++[.slice (some rt) 3 (r.items.map vD)]) p.1) (λp=>S.ix.length-p.1) (0,_,_) (by exact⟨Nat.zero_le _,hI⟩) ?_
 rintro ⟨k,m3,S3⟩ ⟨hk,hI3⟩
 simp only at hk hI3 ⊢
 have hix:=λP t kk n=>zDn P t 2 S.itok (S.ix.map ixE) kk n
 by_cases hkl:k<S.ix.length
 ·have l_x:((k:Int)<(S.ix.length:Int))=True:=eq_true (by omega)
  have w_x:=yU k (by omega)
  have hkl3:k<S3.ix.length:=by have:=congrArg List.length hI3.ixm;simp at this;omega
  obtain⟨x,hx⟩:∃x,S3.ix[k]?=some x:=⟨_,List.getElem?_eq_getElem hkl3⟩
  have hx':(S.ix.map ixE)[k]?=some (.agg [slT (some x.tag) 1 I x.cols,.ptr x.T.t 0]):=by rw[<-hI3.ixm,List.getElem?_map,hx];rfl
  obtain⟨s8,h87,h8⟩:=yXs (G:=G) ((S.rows.length+1:Nat):Int)
  obtain⟨ks,hkey,hksl⟩:=xOw (G:=G) r x.cols (λv hv=>by have:=hv16 v hv;omega) (hI3.at_.ih x (List.mem_of_getElem? hx)).2
  have hrs:sl 3 vD r=.slice none 3 (r.items.map vD):=by
   unfold sl Sl.items
   cases e:r.1 with
   |none=>exact absurd (by unfold Sl.items;rw[e];rfl) hne
   |some l=>rfl
  rw[hrs] at hkey
  have hsr:zC noR (r.items.map vD)=r.items.map vD:=zL vD (λv=>yW v) _
  have hsc:zF noR (slT (some x.tag) 1 I x.cols)=sl 1 I x.cols:=zCt _ zEm
  obtain⟨d4,m4,T4,hp4,ht4,hN4,hF4,htk4⟩:=xLu (G:=G) m3 x.T S.rows.length (ks++s8) ((S.rows.length+1:Nat):Int) (hI3.rest k x (Nat.le_refl _) hx) hl
  have hrl3:S3.rows.length=S.rows.length+1:=by rw[hI3.rows];simp
  obtain⟨q1,q2,q3,q4⟩:=xAa hI3.at_ hx ht4 (by rw[hrl3];exact hN4) hF4 htk4
  have hz:(List.length ks+List.length s8<=140737488355328)=True:=eq_true (by have h8':List.length s8=8:=h8;have:List.length ks<=100000:=hksl;omega)
  refine gw (an9 hs hst hdel hcl hput l1 l2 hs2 (an9 hln hml l_x w_x hix hx' h87 hkey (an4 hsr hsc hp4 hz))) ?_
  exact⟨(k+1,m4,S3.setT k x T4),by simp +decide only[go_sem]<;>rfl,⟨hkl,⟨q1,hI3.s,hI3.cols,hI3.rows,q3.trans hI3.ixm,λi y hi hy=>by
   obtain⟨y1,y2⟩:=q4 i y (by omega) hy
   exact(hI3.rest i y (by omega) y1).keep y2,hI3.fr.trans q2⟩⟩,by simp only;omega⟩
 ·have l_x:((k:Int)<(S.ix.length:Int))=False:=eq_false (by omega)
  obtain⟨n5,hs5⟩:=hI3.at_.hs
  rw[hI3.s] at hs5
  refine gw (an9 hs hst hdel hcl hput l1 l2 hs2 (an4 hln hml l_x hs5)) ?_
  simp +decide only[go_sem]
  generalize (if IntKind.i64.wrap (((S.rows.length+1:Nat):Int)+1)>n5 then IntKind.i64.wrap (((S.rows.length+1:Nat):Int)+1) else n5)=N
  have q:=hI3.at_.next N
  rw[hI3.s] at q
  exact⟨S3,rt,by trivial,q.1,hI3.s,hI3.cols,hI3.rows,by have:=congrArg List.length hI3.ixm;simpa using this,hI3.fr.trans q.2⟩
end Go.Eng
namespace Go.Eng
open Go Go.Proofs
variable {G:Nat->Option (List D)}
structure StS where
 st:Nat
 schema:Sl Tbl
 ttok:Nat
 tabs:List xV
def zDe (S:xV):D:=.ptr S.s 0
def zAb (l:List xV):List Nat:=l.flatMap λS=>S.ids
def qS (l:List xV):List Nat:=l.flatMap λS=>S.tks
def StS.ids (Z:StS):List Nat:=Z.st::zAb Z.tabs
def StS.tks (Z:StS):List Nat:=tkR Z.ttok (Z.tabs.map zDe)++qS Z.tabs
structure zMn (m:Mem) (Z:StS):Prop where
 hs:m.boxes[Z.st]?=some [sl 5 zQ Z.schema,vdK 1 Z.ttok (Z.tabs.map zDe)]
 tt:Z.tabs≠[]->m.toks[Z.ttok]?=some Z.tabs.length
 at_:∀S∈Z.tabs,wG m S
 nd:Z.ids.Nodup
 tnd:Z.tks.Nodup
 cl:∀(i:Nat) (S:xV),Z.tabs[i]?=some S->∃t,Z.schema.items[i]?=some t/\S.cols=t.cols.items.length
 ixl:∀S∈Z.tabs,S.ix.length<=800
theorem zMn.lt {m:Mem} {Z:StS} (h:zMn m Z):∀id∈Z.ids,id<m.boxes.length:=by
 intro id hi
 simp only[StS.ids,List.mem_cons,zAb,List.mem_flatMap] at hi
 rcases hi with rfl|⟨S,hS,hi⟩
 ·exact(List.getElem?_eq_some_iff.1 h.hs).1
 ·exact(h.at_ S hS).lt id hi
theorem zMn.tlt {m:Mem} {Z:StS} (h:zMn m Z):∀id∈Z.tks,id<m.toks.length:=by
 intro id hi
 simp only[StS.tks,List.mem_append,qS,List.mem_flatMap] at hi
 rcases hi with hi|⟨S,hS,hi⟩
 ·cases hx:Z.tabs with
  |nil=>rw[hx] at hi;simp[tkR] at hi
  |cons a r=>
   rw[hx] at hi
   simp[tkR] at hi
   subst hi
   exact(List.getElem?_eq_some_iff.1 (h.tt (by rw[hx];simp))).1
 ·exact(h.at_ S hS).tlt id hi
theorem zXw {α:Type} {f:α->List Nat} {l:List α} {k:Nat} {x:α} (h:l[k]?=some x):l.flatMap f=(l.take k).flatMap f++(f x++(l.drop (k+1)).flatMap f):=by
 have hk:=(List.getElem?_eq_some_iff.1 h)
 have:l=l.take k++x::l.drop (k+1):=by
  rw[<-hk.2,<-List.drop_eq_getElem_cons hk.1,List.take_append_drop]
 conv=>lhs;rw[this]
 simp
theorem yNo {α:Type} {f:α->List Nat} {l:List α} {k:Nat} {x y:α} (h:l[k]?=some x):(l.set k y).flatMap f=(l.take k).flatMap f++(f y++(l.drop (k+1)).flatMap f):=by
 have hk:=(List.getElem?_eq_some_iff.1 h).1
 rw[List.set_eq_take_append_cons_drop,if_pos hk]
 simp
theorem zXx {α:Type} {f:α->List Nat} {l:List α} {k i:Nat} {y:α} (hik:i≠k) (hy:l[i]?=some y) {id:Nat} (hid:id∈f y):id∈(l.take k).flatMap f\/id∈(l.drop (k+1)).flatMap f:=by
 by_cases hlt':i<k
 ·left
  exact List.mem_flatMap.2 ⟨y,List.mem_of_getElem? (i:=i) (by rw[List.getElem?_take_of_lt hlt'];exact hy),hid⟩
 ·right
  exact List.mem_flatMap.2 ⟨y,List.mem_of_getElem? (i:=i-(k+1)) (by rw[List.getElem?_drop,show k+1+(i-(k+1))=i by omega];exact hy),hid⟩
theorem zVz {A B C:List Nat} (h:(A++(B++C)).Nodup) {id:Nat} (hid:id∈A\/id∈C):id∉B:=by
 intro hc
 rcases hid with hid|hid
 ·exact(List.nodup_append.1 h).2.2 id hid id (List.mem_append_left _ hc) rfl
 ·exact(List.nodup_append.1 (List.nodup_append.1 h).2.1).2.2 id hc id hid rfl
theorem yYu {m m':Mem} {Z:StS} {k:Nat} {S S':xV} (h:zMn m Z) (hx:Z.tabs[k]?=some S) (hs:S'.s=S.s) (hc:S'.cols=S.cols) (hi:S'.ix.length=S.ix.length) (hA:wG m' S') (hF:Fr S.ids S'.ids S.tks S'.tks m m') :
  zMn m' { Z with tabs:=Z.tabs.set k S' }:=by
 have hkl:=(List.getElem?_eq_some_iff.1 hx).1
 have hmap:(Z.tabs.set k S').map zDe=Z.tabs.map zDe:=by
  rw[List.map_set]
  have:zDe S'=zDe S:=by simp only[zDe,hs]
  rw[this]
  apply List.ext_getElem?
  intro i
  by_cases e:k=i
  ·subst e;rw[List.getElem?_set_self (by simpa using hkl),List.getElem?_map,hx];rfl
  ·rw[List.getElem?_set_ne e]
 have hids:Z.ids=(Z.st::zAb (Z.tabs.take k))++(S.ids++zAb (Z.tabs.drop (k+1))):=by
  show Z.st::zAb Z.tabs=_
  rw[zAb,zXw hx];rfl
 have hids':StS.ids { Z with tabs:=Z.tabs.set k S' }=(Z.st::zAb (Z.tabs.take k))++(S'.ids++zAb (Z.tabs.drop (k+1))):=by
  show Z.st::zAb (Z.tabs.set k S')=_
  rw[zAb,yNo hx];rfl
 have htks:Z.tks=(tkR Z.ttok (Z.tabs.map zDe)++qS (Z.tabs.take k))++(S.tks++qS (Z.tabs.drop (k+1))):=by
  show tkR Z.ttok (Z.tabs.map zDe)++qS Z.tabs=_
  rw[qS,zXw hx,List.append_assoc];rfl
 have htks':StS.tks { Z with tabs:=Z.tabs.set k S' }=(tkR Z.ttok (Z.tabs.map zDe)++qS (Z.tabs.take k))++(S'.tks++qS (Z.tabs.drop (k+1))):=by
  show tkR Z.ttok ((Z.tabs.set k S').map zDe)++qS (Z.tabs.set k S')=_
  rw[hmap,qS,yNo hx,List.append_assoc];rfl
 have hnd:=h.nd
 have htnd:=h.tnd
 have hlt:=h.lt
 have htl:=h.tlt
 rw[hids] at hnd
 rw[htks] at htnd
 have hkeep:∀id∈Z.ids,id∉S.ids->m'.boxes[id]?=m.boxes[id]?:=λid h1 h2=>hF.keep id (hlt id h1) h2
 have htkeep:∀id∈Z.tks,id∉S.tks->m'.toks[id]?=m.toks[id]?:=λid h1 h2=>hF.tkeep id (htl id h1) h2
 refine⟨?_,?_,?_,?_,?_,?_,?_⟩
 ·show m'.boxes[Z.st]?=some [_,vdK 1 Z.ttok ((Z.tabs.set k S').map zDe)]
  rw[hmap]
  exact(hkeep Z.st (by simp[StS.ids]) (zVz hnd (.inl (by simp)))).trans h.hs
 ·intro _
  show m'.toks[Z.ttok]?=some (Z.tabs.set k S').length
  rw[List.length_set]
  have hne:Z.tabs≠[]:=by intro e;rw[e] at hx;simp at hx
  have hm:Z.ttok∈tkR Z.ttok (Z.tabs.map zDe):=zKa (by simpa using hne)
  exact(htkeep _ (by rw[htks];simp[hm]) (zVz htnd (.inl (by simp[hm])))).trans (h.tt hne)
 ·intro y hy
  obtain⟨i,hi,hiy⟩:=List.mem_iff_getElem.1 hy
  have hiy':(Z.tabs.set k S')[i]?=some y:=by rw[List.getElem?_eq_getElem hi,hiy]
  by_cases e:k=i
  ·subst e
   rw[List.getElem?_set_self hkl] at hiy'
   cases hiy'
   exact hA
  ·rw[List.getElem?_set_ne e] at hiy'
   refine(h.at_ y (List.mem_of_getElem? hiy')).keep (λid hid=>?_) (λid hid=>?_)
   ·have:=zXx (f:=λS=>S.ids) (λe'=>e e'.symm) hiy' hid
    refine hkeep id ?_ (zVz hnd ?_)
    ·exact List.mem_cons_of_mem _ (List.mem_flatMap.2 ⟨y,List.mem_of_getElem? hiy',hid⟩)
    ·exact this.imp (λq=>List.mem_cons_of_mem _ q) λq=>q
   ·have:=zXx (f:=λS=>S.tks) (λe'=>e e'.symm) hiy' hid
    refine htkeep id ?_ (zVz htnd ?_)
    ·exact List.mem_append_right _ (List.mem_flatMap.2 ⟨y,List.mem_of_getElem? hiy',hid⟩)
    ·exact this.imp (λq=>List.mem_append_right _ q) λq=>q
 ·rw[hids']
  exact zKi hnd (n:=m.boxes.length) (by rw[<-hids];exact hlt) hA.nd hF.sub
 ·rw[htks']
  exact zKi htnd (n:=m.toks.length) (by rw[<-htks];exact htl) hA.tnd hF.tsub
 ·intro i y hy
  have hiy':(Z.tabs.set k S')[i]?=some y:=hy
  by_cases e:k=i
  ·subst e
   rw[List.getElem?_set_self hkl] at hiy'
   cases hiy'
   obtain⟨t,t1,t2⟩:=h.cl k S hx
   exact⟨t,t1,hc.trans t2⟩
  ·rw[List.getElem?_set_ne e] at hiy'
   exact h.cl i y hiy'
 ·intro y hy
  obtain⟨i,hi',hiy⟩:=List.mem_iff_getElem.1 hy
  have hiy':(Z.tabs.set k S')[i]?=some y:=by rw[List.getElem?_eq_getElem hi',hiy]
  by_cases e:k=i
  ·subst e
   rw[List.getElem?_set_self hkl] at hiy'
   cases hiy'
   rw[hi];exact h.ixl S (List.mem_of_getElem? hx)
  ·rw[List.getElem?_set_ne e] at hiy'
   exact h.ixl y (List.mem_of_getElem? hiy')
end Go.Eng
