/- A part of the proof: see the last text. -/
import Derived.Test.YtggiaoaballdgaaGreatDoorJ18
import Derived.Test.YtggiaoaballdgaaGreatDoorJ11
set_option linter.unusedSimpArgs false
set_option linter.unusedVariables false
namespace Go.Eng
open Go Go.Proofs
open Nat renaming reduceAdd → ra, reduceMul → rb, reduceSub → rc
set_option maxRecDepth 20000
set_option maxHeartbeats 32000000
attribute [local irreducible] wpI xU
variable {G:Nat->Option (List D)}
theorem xAh (m:Mem) (s:Nat) (cols c:Int) (x y z:D) (hs:m.boxes[s]?=some [.int .i64 cols,x,y,z]):zG (XG G) TT 187 m [.ptr s 0,.int .i64 c]=some (.bool (decide (0<=c)&&decide (c<cols)),m):=by
 refine yB T187 rfl ?_
 unfold Tryz.f187 xJe
 simp only[Option.getD_some]
 simp +decide only[go_sem,ra]
 cases c1:(decide (0<=c))
 ·refine gw (an hs c1) ?_
  simp +decide only[go_sem]
  exact⟨rfl,trivial⟩
 ·cases c2:(decide (c<cols))
  ·refine gw (an3 hs c1 c2) ?_
   simp +decide only[go_sem]
  ·refine gw (an3 hs c1 c2) ?_
   simp +decide only[go_sem]
theorem yZl (m:Mem) (b s:Nat) (cols:Int) (c:I64) (x y z:D) (hb:m.boxes[b]?=some [.ptr s 0]) (hs:m.boxes[s]?=some [.int .i64 cols,x,y,z]):zG (XG G) TT 245 m [I c,.ptr b 0]=some (.bool (!(decide (0<=c.1)&&decide (c.1<cols))),m):=by
 have h:=xAh (G:=G) m s cols c.1 x y z hs
 refine yB T245 rfl ?_
 unfold Tryz.f245 xIo
 simp only[Option.getD_some]
 simp +decide only[go_sem,ra]
 refine gw (an hb h) ?_
 simp +decide only[go_sem]
theorem yPz (m:Mem) (b:Nat) (x:IxS) (c:Sl I64) (hb:m.boxes[b]?=some [sl 1 I c]):∃r,zG (XG G) TT 255 m [ixE x,.ptr b 0]=some (.bool r,m):=by
 refine⟨eqI x.cols.items c.items,?_⟩
 have h1:=yKr (G:=G) x.cols c
 have h2:zF noR (slT (some x.tag) 1 I x.cols)=sl 1 I x.cols:=zCt _ zEm
 have h3:(sl 1 I c).isO=false:=zKd none 1 I c
 refine yB T255 rfl ?_
 unfold Tryz.f255 xIg
 simp only[Option.getD_some,ixE]
 simp +decide only[go_sem,ra]
 refine gw (an4 hb h1 h2 h3) ?_
 simp +decide only[go_sem]
theorem zDn (P:Program) (t k tok:Nat) (l:List D) (kk:IntKind) (n:Int):zQf P t (vdK k tok l) (.int kk n)=match zN P t with
  |some k'=>bif decide (k'=k) then(match atI l n with
   |some a=>some (.ref a.cells 0)
   |none=>none) else none
  |none=>none:=by
 cases l with
 |nil=>
  show none=_
  cases zN P t with
  |none=>rfl
  |some k'=>cases n<;>simp[atI]
 |cons a r=>
  show zQf P t (.slice _ k (a::r)) (.int kk n)=_
  rw[qO]
  cases zN P t<;>rfl
theorem xOy (m:Mem) (b tok:Nat) (l:List IxS) (c:Sl I64) (hb:m.boxes[b]?=some [sl 1 I c]) (hl:l.length<=1000):∃r:Int,zG (XG G) TT 254 m [vdK 2 tok (l.map ixE),.func 255 [.ptr b 0]]=some (.int .i64 r,m)/\(r = -1\/∃j:Nat,r=(j:Int)/\j<l.length):=by
 suffices h:∃v m',zG (XG G) TT 254 m [vdK 2 tok (l.map ixE),.func 255 [.ptr b 0]]=some (v,m')/\∃r:Int,v=.int .i64 r/\m'=m/\(r = -1\/∃j:Nat,r=(j:Int)/\j<l.length) by
  obtain⟨v,m',h1,r,rfl,rfl,h2⟩:=h;exact⟨r,h1,h2⟩
 refine zO T254 rfl ?_
 unfold Tryz.f254 xIh
 simp only[Option.getD_some]
 have hml:(l.map ixE).length=l.length:=List.length_map ..
 have hln:=λP u=>zIx P u 2 tok (l.map ixE)
 simp +decide only[go_sem,ra]
 refine gw (an hln hml) ?_
 refine lpC (T:=Nat) [0,1,7,8] (λk=>[(8,.int .i64 (k:Int))]) (λ_=>[]) (λ_=>m) (λk=>k<=l.length) (λk=>l.length-k) 0 (by simp) ?_
 rintro k hk
 by_cases h:k<l.length
 ·obtain⟨l_x,x,g_x,w_x⟩:=elm (L:=l) (k:=k) (by assumption) (by omega)
  obtain⟨r,hr⟩:=yPz (G:=G) m b x c hb
  have hx:(l.map ixE)[k]?=some (ixE x):=by rw[List.getElem?_map,g_x];rfl
  have hix:=λP t kk n=>zDn P t 2 tok (l.map ixE) kk n
  simp only[ixE] at hr hx
  cases c1:(r)
  ·refine gw (an9 hln hml l_x g_x w_x hr hx hix c1) ?_
   exact⟨k+1,by simp +decide only[go_sem]<;>rfl,by omega,by omega⟩
  ·refine gw (an9 hln hml l_x g_x w_x hr hx hix c1) ?_
   simp +decide only[go_sem]
   exact⟨k,by trivial,by trivial,.inr ⟨k,rfl,h⟩⟩
 ·have l_x:((k:Int)<((l).length:Int))=False:=by simp;omega
  refine gw (an3 hln hml l_x) ?_
  simp +decide only[go_sem]
  exact⟨-1,by trivial,by trivial,.inl rfl⟩
theorem yRs (m:Mem) (S:xV) (c:Sl I64) (h:wG m S) (hl:S.ix.length<=1000):∃(d1 d2:D) (b:Bool),zG (XG G) TT 190 m [.ptr S.s 0,sl 1 I c]=some (.tuple [.agg [d1,d2],.bool b],⟨m.boxes++[[sl 1 I c]],m.toks⟩):=by
 suffices hh:∃v m',zG (XG G) TT 190 m [.ptr S.s 0,sl 1 I c]=some (v,m')/\∃(d1 d2:D) (b:Bool),v=.tuple [.agg [d1,d2],.bool b]/\m'=⟨m.boxes++[[sl 1 I c]],m.toks⟩ by
  obtain⟨v,m',h1,d1,d2,b,rfl,rfl⟩:=hh;exact⟨d1,d2,b,h1⟩
 have hm:=h.more [[sl 1 I c]] []
 obtain⟨n,hs⟩:=h.hs
 obtain⟨n',hs'⟩:=hm.hs
 have hb:(m.boxes++[[sl 1 I c]])[m.boxes.length]?=some [sl 1 I c]:=by simp
 obtain⟨r,hr,hrr⟩:=xOy (G:=G) ⟨m.boxes++[[sl 1 I c]],m.toks⟩ m.boxes.length S.itok S.ix c hb hl
 have hs':(m.boxes++[[sl 1 I c]])[S.s]?=some [.int .i64 (S.cols:Int),.ptr S.T.t 0,.int .i64 n',vdK 2 S.itok (S.ix.map ixE)]:=hs'
 have hix:=λP t kk n=>zDn P t 2 S.itok (S.ix.map ixE) kk n
 refine zO T190 rfl ?_
 unfold Tryz.f190 xJd
 simp only[Option.getD_some]
 simp +decide only[go_sem,ra]
 rcases hrr with rfl|⟨j,rfl,hj⟩
 ·have e1:((-1:Int)<0)=True:=eq_true (by decide)
  refine gw (an5 hs hs' hr hix e1) ?_
  simp +decide only[go_sem]
  exact⟨_,_,_,rfl,by trivial⟩
 ·have e1:((j:Int)<0)=False:=eq_false (by omega)
  obtain⟨x,hx⟩:∃x,S.ix[j]?=some x:=⟨_,List.getElem?_eq_getElem hj⟩
  have hx':(S.ix.map ixE)[j]?=some (.agg [slT (some x.tag) 1 I x.cols,.ptr x.T.t 0]):=by rw[List.getElem?_map,hx];rfl
  refine gw (an6 hs hs' hr hix e1 hx') ?_
  simp +decide only[go_sem,ra]
  exact⟨_,_,_,rfl,by trivial⟩
theorem zDh {m m':Mem} (h:∀id,id<m.boxes.length->m'.boxes[id]?=m.boxes[id]?):Sub m m':=by
 intro i cs hc
 have hi:=(List.getElem?_eq_some_iff.1 (yC hc).1).1
 exact wQ (by rw[h i hi];exact(yC hc).1) (yC hc).2
theorem yCs (k tok:Nat) (m:Mem) (L:List D) (x:D) (h:L≠[]->m.toks[tok]?=some L.length):∃tok' tk,zZ k m (vdK k tok L) [x]=some (vdK k tok' (L++[x]),⟨m.boxes,tk⟩)/\tk[tok']?=some (L.length+1)/\Fr [] [] (tkR tok L) [tok'] m ⟨m.boxes,tk⟩:=by
 cases L with
 |nil=>
  refine⟨m.toks.length,m.toks++[1],rfl,by simp,⟨Nat.le_refl _,by simp,λ_ _ _=>rfl,λid q _=>List.getElem?_append_left q,λ_ h=>.inl h,λid q=>?_⟩⟩
  simp at q;exact .inr (by omega)
 | cons a r=>
  have h:=h (by simp)
  have hlt:=(List.getElem?_eq_some_iff.1 h).1
  refine⟨tok,m.toks.set tok (a::r++[x]).length,?_,?_,⟨Nat.le_refl _,by simp,λ_ _ _=>rfl,λid _ q=>?_,λ_ h=>.inl h,λ_ h=>.inl h⟩⟩
  ·simp[vdK,zZ,h]
  ·rw[List.getElem?_set_self hlt];simp
  ·simp only[tkR,List.mem_singleton] at q
   exact List.getElem?_set_ne (λe=>q e.symm)
theorem zWa (A T:List Nat) (m:Mem) (bx:List (List D)) (tk:List Nat):Fr A A T T m ⟨m.boxes++bx,m.toks++tk⟩:=⟨by simp,by simp,λid h _=>List.getElem?_append_left h,λid h _=>List.getElem?_append_left h,λ_ h=>.inl h,λ_ h=>.inl h⟩
theorem tkR_app' (tok:Nat) (rows:List D) (row:D):tkR tok (rows++[row])=[tok]:=tkR_app tok rows row
theorem ySu {m m5:Mem} {S:xV} (h:wG m5 S) (hr:S.rows=[]) (hf:Fr S.ids S.ids S.tks S.tks m m5) {a:Nat} (hma:m.boxes.length<=a) (hlt:∀id∈S.ids,id<a) (x1:m5.boxes[a]?=some [.nil,.nil,.nil]) (x2:m5.boxes[a+1]?=some [.ptr a 0,.int .i64 16,.int .i64 0]) (c:Sl I64) (hc:c.items.length<=20) (t tok':Nat) (tk':List Nat) (htk':tk'[tok']?=some (S.ix.length+1)) (hfa:Fr [] [] (tkR S.itok (S.ix.map ixE)) [tok'] m5 ⟨m5.boxes,tk'⟩) (n4:Int) :
  wG ⟨m5.boxes.set S.s [.int .i64 (S.cols:Int),.ptr S.T.t 0,.int .i64 n4,vdK 2 tok' (S.ix.map ixE++[.agg [slT (some t) 1 I c,.ptr (a+1) 0]])],tk'⟩ ⟨S.s,S.cols,S.T,S.tok,S.rows,tok',S.ix++[⟨c,t,⟨a+1,a,.nil,.nil⟩⟩]⟩/\
  Fr S.ids (xV.ids ⟨S.s,S.cols,S.T,S.tok,S.rows,tok',S.ix++[⟨c,t,⟨a+1,a,.nil,.nil⟩⟩]⟩) S.tks (xV.tks ⟨S.s,S.cols,S.T,S.tok,S.rows,tok',S.ix++[⟨c,t,⟨a+1,a,.nil,.nil⟩⟩]⟩) m ⟨m5.boxes.set S.s [.int .i64 (S.cols:Int),.ptr S.T.t 0,.int .i64 n4,vdK 2 tok' (S.ix.map ixE++[.agg [slT (some t) 1 I c,.ptr (a+1) 0]])],tk'⟩:=by
 have hset:∀x id,id≠S.s->(m5.boxes.set S.s x)[id]?=m5.boxes[id]?:=λx id h=>List.getElem?_set_ne (λe=>h e.symm)
 have hs5:S.s<m5.boxes.length:=h.lt _ (by simp[xV.ids])
 have hsa:S.s<a:=hlt _ (by simp[xV.ids])
 have hids:xV.ids ⟨S.s,S.cols,S.T,S.tok,S.rows,tok',S.ix++[⟨c,t,⟨a+1,a,.nil,.nil⟩⟩]⟩=S.ids++[a+1,a]:=by
  simp[xV.ids,uO,TrL.ids,uU]
 have hnd:=h.nd
 have hnd2:=hnd
 simp only[xV.ids,List.nodup_cons,List.mem_append,not_or] at hnd2
 have htks:xV.tks ⟨S.s,S.cols,S.T,S.tok,S.rows,tok',S.ix++[⟨c,t,⟨a+1,a,.nil,.nil⟩⟩]⟩=[tok']:=by
  simp only[xV.tks,hr,List.map_append,List.map_cons,List.map_nil,tkR_app'];rfl
 have htks0:S.tks=tkR S.itok (S.ix.map ixE):=by simp only[xV.tks,hr];rfl
 refine⟨⟨⟨n4,?_⟩,?_,λ_=>by simpa using htk',?_,?_,?_⟩,⟨?_,?_,?_,?_,?_,?_⟩⟩
 ·rw[List.map_append];exact List.getElem?_set_self hs5
 ·rw[hr]
  have htr:=h.tr
  rw[hr] at htr
  exact htr.keep (λid hi=>hset _ _ λe=>hnd2.1.1 (e▸hi)) (λid hi=>by simp[tkR] at hi)
 ·intro x hx
  rw[List.mem_append,List.mem_singleton] at hx
  rcases hx with hx|rfl
  ·refine⟨(h.ih x hx).1.keep λid hi=>hset _ _ λe=>hnd2.1.2 ?_,(h.ih x hx).2⟩
   rw[<-e];exact List.mem_flatMap.2 ⟨x,hx,hi⟩
  ·refine⟨⟨⟨[],[],⟨⟨0,?_⟩,?_,.nil,.nil,rfl⟩,Nat.zero_le _⟩,by simp[TrL.ids,uU]⟩,hc⟩
   ·exact(hset _ (a+1) (by omega)).trans x2
   ·exact(hset _ a (by omega)).trans x1
 ·rw[hids,List.nodup_append]
  refine⟨hnd,by simp,λx hx y hy=>?_⟩
  have:=hlt x hx
  simp at hy;omega
 ·rw[htks];simp
 ·show m.boxes.length<=(m5.boxes.set S.s _).length
  rw[List.length_set];exact hf.len
 ·exact Nat.le_trans hf.tlen hfa.tlen
 ·intro id h1 h2
  refine(hset _ _ λe=>h2 (by simp[xV.ids,e])).trans (hf.keep id h1 h2)
 ·intro id h1 h2
  rw[htks0] at h2
  exact(hfa.tkeep id (Nat.lt_of_lt_of_le h1 hf.tlen) h2).trans (hf.tkeep id h1 (by rw[htks0];exact h2))
 ·intro id hi
  rw[hids,List.mem_append] at hi
  rcases hi with hi|hi
  ·exact .inl hi
  ·simp at hi;exact .inr (by omega)
 ·intro id hi
  rw[htks] at hi
  rcases hfa.tsub id hi with h|h
  ·rw[htks0];exact .inl h
  ·exact .inr (Nat.le_trans hf.tlen h)
theorem yNx (m:Mem) (S:xV) (c:Sl I64) (h:wG m S) (hl:S.ix.length<=900) (hc:c.items.length<=20) (hr:S.rows=[]) :
  ∃d m' S',zG (XG GK) TT 171 m [.ptr S.s 0,sl 1 I c]=some (d,m')/\wG m' S'/\S'.s=S.s/\S'.cols=S.cols/\S'.rows=[]/\S'.ix.length<=S.ix.length+1/\Fr S.ids S'.ids S.tks S'.tks m m':=by
 suffices hh:∃d m',zG (XG GK) TT 171 m [.ptr S.s 0,sl 1 I c]=some (d,m')/\∃S':xV,wG m' S'/\S'.s=S.s/\S'.cols=S.cols/\S'.rows=[]/\S'.ix.length<=S.ix.length+1/\Fr S.ids S'.ids S.tks S'.tks m m' by
  obtain⟨d,m',h1,S',h2⟩:=hh;exact⟨d,m',S',h1,h2⟩
 obtain⟨n,hs⟩:=h.hs
 have hm1:=h.more [[.ptr S.s 0]] []
 obtain⟨n1,hs1⟩:=hm1.hs
 have hb:(m.boxes++[[D.ptr S.s 0]])[m.boxes.length]?=some [.ptr S.s 0]:=by simp
 have hct:=xAt c 245 [.ptr m.boxes.length 0] ⟨m.boxes++[[.ptr S.s 0]],m.toks⟩ (λx=>!(decide (0<=x.1)&&decide (x.1<(S.cols:Int)))) (eq_true (by decide)) (λx _=>yZl (G:=GK) _ _ S.s (S.cols:Int) x _ _ _ hb (by have:=hs1;simpa using this))
 obtain⟨d1,d2,b2,hfd⟩:=yRs (G:=GK) ⟨m.boxes++[[.ptr S.s 0]],m.toks⟩ S c (by have:=hm1;rwa [List.append_nil] at this) (by omega)
 refine zO T171 rfl ?_
 unfold Tryz.f171 xJo
 simp only[Option.getD_some]
 generalize hw:(c.items.any λx=>!(decide (0<=x.1)&&decide (x.1<(S.cols:Int))))=w at *
 simp +decide only[go_sem,ra]
 refine gw (an4 hs hb hct hfd) ?_
 have hno:wG ⟨m.boxes++[[.ptr S.s 0]]++[[sl 1 I c]],m.toks⟩ S:=by
  have:=h.more ([[.ptr S.s 0]]++[[sl 1 I c]]) []
  rwa [List.append_nil,<-List.append_assoc] at this
 have hfr:Fr S.ids S.ids S.tks S.tks m ⟨m.boxes++[[.ptr S.s 0]]++[[sl 1 I c]],m.toks⟩:=by
  have:=zWa S.ids S.tks m ([[.ptr S.s 0]]++[[sl 1 I c]]) []
  rwa [List.append_nil,<-List.append_assoc] at this
 cases w with
 |true=>
  refine gw (an4 hs hb hct hfd) ?_
  simp +decide only[go_sem]
  exact⟨S,hno,rfl,rfl,hr,by omega,hfr⟩
 | false=>
  cases b2 with
  |true=>
   refine gw (an4 hs hb hct hfd) ?_
   simp +decide only[go_sem]
   exact⟨S,hno,rfl,rfl,hr,by omega,hfr⟩
  | false=>
   by_cases h0:0<c.items.length
   ·have z0:(((0:Int)<(c.items.length:Int)))=True:=eq_true (by omega)
    generalize hm2:(⟨m.boxes++[[.ptr S.s 0]]++[[sl 1 I c]],m.toks⟩:Mem)=m2 at *
    have hm2b:m.boxes++[[.ptr S.s 0]]++[[sl 1 I c]]=m2.boxes:=by rw[<-hm2]
    have hm2t:m.toks=m2.toks:=by rw[<-hm2]
    obtain⟨t,tk,c168⟩:=zPo (G:=GK) m2 none c (by omega)
    have c246:=yZq (G:=GK) ⟨m2.boxes,m2.toks++tk⟩
    have hm4:wG ⟨m2.boxes++[[.nil,.nil,.nil]]++[[.ptr m2.boxes.length 0,.int .i64 16,.int .i64 0]],m2.toks++tk⟩ S:=by
     have:=hno.more ([[.nil,.nil,.nil]]++[[.ptr m2.boxes.length 0,.int .i64 16,.int .i64 0]]) tk
     rwa [<-List.append_assoc] at this
    have hfr4:Fr S.ids S.ids S.tks S.tks m2 ⟨m2.boxes++[[.nil,.nil,.nil]]++[[.ptr m2.boxes.length 0,.int .i64 16,.int .i64 0]],m2.toks++tk⟩:=by
     have:=zWa S.ids S.tks m2 ([[.nil,.nil,.nil]]++[[.ptr m2.boxes.length 0,.int .i64 16,.int .i64 0]]) tk
     rwa [<-List.append_assoc] at this
    have hfr4':Fr [] [] [] [] m2 ⟨m2.boxes++[[.nil,.nil,.nil]]++[[.ptr m2.boxes.length 0,.int .i64 16,.int .i64 0]],m2.toks++tk⟩:=by
     have:=zWa [] [] m2 ([[.nil,.nil,.nil]]++[[.ptr m2.boxes.length 0,.int .i64 16,.int .i64 0]]) tk
     rwa [<-List.append_assoc] at this
    obtain⟨n2,hs2⟩:=hno.hs
    obtain⟨n4,hs4⟩:=hm4.hs
    obtain⟨tok',tk',ha,htk',hfa⟩:=yCs 2 S.itok ⟨m2.boxes++[[.nil,.nil,.nil]]++[[.ptr m2.boxes.length 0,.int .i64 16,.int .i64 0]],m2.toks++tk⟩ (S.ix.map ixE) (.agg [slT (some t) 1 I c,.ptr (m2.boxes.length+1) 0]) (λe=>by
     rw[List.length_map];exact hm4.it (by simpa using e))
    have hs4':(m2.boxes++[[D.nil,.nil,.nil]]++[[.ptr m2.boxes.length 0,.int .i64 16,.int .i64 0]])[S.s]?=some [.int .i64 (S.cols:Int),.ptr S.T.t 0,.int .i64 n4,vdK 2 S.itok (S.ix.map ixE)]:=hs4
    have z1:=λm=>qW m 2 S.itok (S.ix.map ixE)
    have z2:(S.ix.map ixE).length=S.ix.length:=List.length_map ..
    have z3:(S.ix.length+1<=16777216)=True:=eq_true (by omega)
    have hb2:m2.boxes[m.boxes.length]?=some [.ptr S.s 0]:=by
     rw[<-hm2b,List.getElem?_append_left (by simp)];exact hb
    have hb4:(m2.boxes++[[D.nil,.nil,.nil]]++[[.ptr m2.boxes.length 0,.int .i64 16,.int .i64 0]])[m.boxes.length]?=some [.ptr S.s 0]:=by
     have:=(List.getElem?_eq_some_iff.1 hb2).1
     rw[List.getElem?_append_left (by simp;omega),List.getElem?_append_left this];exact hb2
    rw[yJk] at c168
    have y1:∀Q P:Prop,((Q\/Sub m2 ⟨m2.boxes,m2.toks++tk⟩)/\P)=P:=zAn (zDh λ_ _=>rfl)
    have y2:∀Q P:Prop,((Q\/Sub m2 ⟨m2.boxes++[[.nil,.nil,.nil]]++[[.ptr m2.boxes.length 0,.int .i64 16,.int .i64 0]],m2.toks++tk⟩)/\P)=P:=zAn (zDh hfr4'.len0)
    refine gw (an9 hs hb hct hfd z0 c168 c246 hs2 (an9 hs4' ha z1 z2 z3 hb2 hb4 y1 y2)) ?_
    simp +decide only[go_sem]
    have hfull:=hfr.trans hfr4
    obtain⟨r1,r2⟩:=ySu hm4 hr hfull (a:=m2.boxes.length) hfr.len hno.lt (by simp) (by simp) c hc t tok' tk' (by rw[<-z2];exact htk') hfa n4
    exact⟨_,r1,rfl,rfl,hr,by simp,r2⟩
   ·have z0:(((0:Int)<(c.items.length:Int)))=False:=eq_false (by omega)
    refine gw (an5 hs hb hct hfd z0) ?_
    simp +decide only[go_sem]
    exact⟨S,hno,rfl,rfl,hr,by omega,hfr⟩
end Go.Eng
namespace Go.Eng
open Go Go.Proofs
open Nat renaming reduceAdd → ra, reduceMul → rb, reduceSub → rc
set_option maxRecDepth 20000
set_option maxHeartbeats 32000000
attribute [local irreducible] wpI xU
structure NwI (m0 m:Mem) (cols s:Nat) (S:xV) (k:Nat):Prop where
 at_:wG m S
 s:S.s=s
 cols:S.cols=cols
 rows:S.rows=[]
 ix:S.ix.length<=k
 fr:Fr [] S.ids [] S.tks m0 m
theorem yZs (m:Mem) (t:Tbl) (hk:t.keys.items.length<=400) (hf:t.fgns.items.length<=400) (hkc:∀c∈t.keys.items,c.items.length<=20) (hfc:∀f∈t.fgns.items,f.cols.items.length<=20) :
  ∃m' S,zG (XG GK) TT 111 m [zQ t]=some (.ptr S.s 0,m')/\wG m' S/\S.rows=[]/\S.cols=t.cols.items.length/\S.ix.length<=800/\Fr [] S.ids [] S.tks m m':=by
 suffices hh:∃d m',zG (XG GK) TT 111 m [zQ t]=some (d,m')/\∃S:xV,d=.ptr S.s 0/\wG m' S/\S.rows=[]/\S.cols=t.cols.items.length/\S.ix.length<=800/\Fr [] S.ids [] S.tks m m' by
  obtain⟨d,m',h1,S,rfl,h2⟩:=hh;exact⟨m',S,h1,h2⟩
 refine zO T111 rfl ?_
 unfold Tryz.f111 xLa
 simp only[Option.getD_some,zQ]
 have hn:=yZr (G:=GK) m
 have hlt1:=t.keys.lt
 have hlt2:=t.fgns.lt
 have h0:NwI m ⟨m.boxes++[[.nil,.nil,.nil]]++[[.ptr m.boxes.length 0,.int .i64 16,.int .i64 0]]++[[.int .i64 (t.cols.items.length:Int),.ptr (m.boxes.length+1) 0,.int .i64 1,.nil]],m.toks⟩ t.cols.items.length (m.boxes.length+2) ⟨m.boxes.length+2,t.cols.items.length,⟨m.boxes.length+1,m.boxes.length,.nil,.nil⟩,0,[],0,[]⟩ 0:=by
  refine⟨⟨⟨1,by simp[vdK]⟩,⟨⟨0,by simp⟩,by simp,.nil,rfl,λh=>absurd rfl h,by simp[TrL.ids,uU]⟩,λh=>absurd rfl h,λx h=>by simp at h,by simp[xV.ids,TrL.ids,uU,uO],by simp[xV.tks,tkR]⟩,rfl,rfl,rfl,Nat.le_refl _,?_⟩
  refine⟨by simp,Nat.le_refl _,λid h _=>?_,λ_ _ _=>rfl,λid h=>?_,λid h=>by simp[xV.tks,tkR] at h⟩
  ·show (m.boxes++_++_++_)[id]?=_
   rw[List.append_assoc,List.append_assoc,List.getElem?_append_left h]
  ·simp[xV.ids,TrL.ids,uU,uO] at h
   exact .inr (by omega)
 have y2:∀Q P:Prop,((Q\/Sub m ⟨m.boxes++[[.nil,.nil,.nil]]++[[.ptr m.boxes.length 0,.int .i64 16,.int .i64 0]],m.toks⟩)/\P)=P:=zAn (zDh λid h=>by
  show (m.boxes++_++_)[id]?=_
  rw[List.append_assoc,List.getElem?_append_left h])
 have hsz:(m.boxes++[[D.nil,D.nil,D.nil]]++[[D.ptr m.boxes.length 0,D.int .i64 16,D.int .i64 0]]).length=m.boxes.length+2:=by simp
 simp +decide only[go_sem]
 refine gw (an3 hn y2 hsz) ?_
 refine lpC (T:=Nat×Mem×xV) [1,3,15,16,17] (λp=>[(17,.int .i64 (p.1:Int))]) (λ_=>[]) (λp=>p.2.1) (λp=>p.1<=t.keys.items.length/\NwI m p.2.1 t.cols.items.length (m.boxes.length+2) p.2.2 p.1) (λp=>t.keys.items.length-p.1) (0,_,_) (by exact⟨Nat.zero_le _,h0⟩) ?_
 rintro ⟨k,m1,S⟩ ⟨hk1,hI⟩
 simp only at hk1 hI ⊢
 by_cases h:k<t.keys.items.length
 ·obtain⟨l_c,c,g_c,w_c⟩:=elm (L:=t.keys.items) (k:=k) (by assumption) (by omega)
  have hx:=hI.ix
  obtain⟨d,m2,S2,hc,hA,g1,g2,g3,g4,g5⟩:=yNx m1 S c hI.at_ (by omega) (hkc c (List.mem_of_getElem? g_c)) hI.rows
  rw[hI.s] at hc
  refine gw (an7 hn y2 hsz l_c g_c w_c hc) ?_
  exact⟨(k+1,m2,S2),by simp +decide only[go_sem]<;>rfl,⟨h,⟨hA,g1.trans hI.s,g2.trans hI.cols,g3,Nat.le_trans g4 (Nat.succ_le_succ hx),hI.fr.trans g5⟩⟩,by simp only;omega⟩
 ·have l_c:((k:Int)<((t.keys.items).length:Int))=False:=by simp;omega
  refine gw (an4 hn y2 hsz l_c) ?_
  refine lpC (T:=Nat×Mem×xV) [3,26,27,28] (λp=>[(28,.int .i64 (p.1:Int))]) (λ_=>[]) (λp=>p.2.1) (λp=>p.1<=t.fgns.items.length/\NwI m p.2.1 t.cols.items.length (m.boxes.length+2) p.2.2 (k+p.1)) (λp=>t.fgns.items.length-p.1) (0,m1,S) (by exact⟨Nat.zero_le _,hI⟩) ?_
  rintro ⟨q,m3,S3⟩ ⟨hq,hI3⟩
  simp only at hq hI3 ⊢
  by_cases h':q<t.fgns.items.length
  ·obtain⟨l_f,f,g_f,w_f⟩:=elm (L:=t.fgns.items) (k:=q) (by assumption) (by omega)
   have hx:=hI3.ix
   obtain⟨d,m2,S2,hc,hA,g1,g2,g3,g4,g5⟩:=yNx m3 S3 f.cols hI3.at_ (by omega) (hfc f (List.mem_of_getElem? g_f)) hI3.rows
   rw[hI3.s] at hc
   refine gw (an8 hn y2 hsz l_c l_f g_f w_f hc) ?_
   exact⟨(q+1,m2,S2),by simp +decide only[go_sem]<;>rfl,⟨h',⟨hA,g1.trans hI3.s,g2.trans hI3.cols,g3,Nat.le_trans g4 (Nat.succ_le_succ hx),hI3.fr.trans g5⟩⟩,by simp only;omega⟩
  ·have l_f:((q:Int)<((t.fgns.items).length:Int))=False:=by simp;omega
   refine gw (an5 hn y2 hsz l_c l_f) ?_
   simp +decide only[go_sem]
   exact⟨S3,by rw[hI3.s],hI3.at_,hI3.rows,hI3.cols,by have:=hI3.ix;omega,hI3.fr⟩
end Go.Eng
namespace Go.Eng
open Go Go.Proofs
open Nat renaming reduceAdd → ra, reduceMul → rb, reduceSub → rc
set_option maxRecDepth 20000
set_option maxHeartbeats 32000000
attribute [local irreducible] wpI xU
variable {G:Nat->Option (List D)}
def okR (cols:Nat) (r:List Val):Bool:=decide (r.length=cols)&&r.all zQc
theorem zWn (l:List Val):(!l.any λx=>!zQc x)=l.all zQc:=yQp zQc l
theorem yYq (m:Mem) (s cols:Nat) (x y z:D) (r:Sl Val) (hs:m.boxes[s]?=some [.int .i64 (cols:Int),x,y,z]) (hr:∀v∈r.items,v.s.length<4611686018427387904):zG (XG G) TT 88 m [.ptr s 0,sl 3 vD r]=some (.bool (okR cols r.items),m):=by
 have hct:=yNr (G:=G) r 150 [] m (λx=>!zQc x) (eq_true (by decide)) (λx hx=>by rw[zGi xNg,show zH [vD x]=[vD x] from rfl,yZm x (hr x hx)];rfl)
 have hva:=zWn r.items
 generalize r.items.any (λx=>!zQc x)=w at *
 refine yB T88 rfl ?_
 unfold Tryz.f88 F88
 simp only[Option.getD_some]
 simp +decide only[go_sem,ra]
 by_cases e:r.items.length=cols
 ·have e1:((r.items.length:Int)==(cols:Int))=true:=by simp[e]
  refine gw (an3 hs hct e1) ?_
  simp +decide only[go_sem]
  rw[okR,<-hva];simp[e]
 ·have e1:((r.items.length:Int)==(cols:Int))=false:=by simp;omega
  refine gw (an3 hs hct e1) ?_
  simp +decide only[go_sem]
  rw[okR];simp[e]
theorem xPf (m:Mem) (S:xV) (h:wG m S) (hl:S.rows.length<=900):zG (XG G) TT 47 m [.ptr S.s 0,.int .i64 ((S.rows.length+1:Nat):Int)]=some (.tuple [.nil,.bool false],m):=by
 obtain⟨n,hs⟩:=h.hs
 have hd:=xPe (G:=G) m S.T S.tok S.rows h.tr hl
 refine yB T47 rfl ?_
 unfold Tryz.f47 F47
 simp only[Option.getD_some]
 simp +decide only[go_sem,ra]
 refine gw (an hs hd) ?_
 simp +decide only[go_sem]
 try exact⟨rfl,trivial⟩
theorem xPc (m:Mem) (S:xV) (h:wG m S) (hl:S.rows.length<=900):zG (XG G) TT 83 m [.ptr S.s 0,.int .i64 ((S.rows.length+1:Nat):Int)]=some (.tuple [.nil,.bool false],m):=by
 obtain⟨n,hs⟩:=h.hs
 have hd:=xAi (G:=G) m S.T S.tok S.rows h.tr hl
 have hc:zG (XG G) TT 89 m [.nil]=some (.nil,m):=by
  refine yB T89 rfl ?_
  unfold Tryz.f89 F89
  simp only[Option.getD_some]
  simp +decide only[go_sem]
  refine gw trivial ?_
  simp +decide only[go_sem]
  try exact⟨rfl,trivial⟩
 refine yB T83 rfl ?_
 unfold Tryz.f83 F83
 simp only[Option.getD_some]
 simp +decide only[go_sem,ra]
 refine gw (an3 hs hd hc) ?_
 simp +decide only[go_sem]
 try exact⟨rfl,trivial⟩
end Go.Eng
