/- A part of the proof: see the last text. -/
import Derived.Test.YtggiaoaballdgaaGreatDoorJ17
set_option linter.unusedSimpArgs false
set_option linter.unusedVariables false
namespace Go.Eng
open Go Go.Proofs
open Nat renaming reduceAdd → ra, reduceMul → rb, reduceSub → rc
set_option maxRecDepth 20000
set_option maxHeartbeats 32000000
attribute [local irreducible] wpI xU
variable {G:Nat->Option (List D)}
@[go_sem] theorem xPy (X P:Prop):((True\/X)/\P)=P:=propext ⟨λh=>h.2,λh=>⟨.inl trivial,h⟩⟩
def zIo (m:Mem) (d:D) (ks:List (Sl I64)):Prop:=(ks=[]/\(d=.nil\/d=.slice (some 0) 1 []))\/(ks≠[]/\∃(id:Nat) (cs:List D),d=.rsl id 0 ks.length 1/\m.boxes[id]?=some cs/\cs.length=ks.length/\∀(i:Nat) (c:Sl I64),ks[i]?=some c->∃tag,cs[i]?=some (slT tag 1 I c))
def zIq (m:Mem) (d:D) (fs:List Fgn):Prop:=(fs=[]/\(d=.nil\/d=.slice (some 0) 3 []))\/(fs≠[]/\∃(id:Nat) (cs:List D),d=.rsl id 0 fs.length 3/\m.boxes[id]?=some cs/\cs.length=fs.length*3/\∀(i:Nat) (f:Fgn),fs[i]?=some f->∃tag,cs[i*3]?=some (slT tag 1 I f.cols)/\cs[i*3+1]?=some (.int .i64 f.table.1)/\cs[i*3+2]?=some (.int .i64 f.key.1))
def zZe (m:Mem) (d:D) (t:Tbl):Prop:=∃tag kD fD,d=.agg [.str t.name,slT (some tag) 6 yO t.cols,kD,fD,.nil]/\zIo m kD t.keys.items/\zIq m fD t.fgns.items
theorem zIo.keep {m m':Mem} {d:D} {ks:List (Sl I64)} (h:zIo m d ks) (k:∀id,id<m.boxes.length->m'.boxes[id]?=m.boxes[id]?):zIo m' d ks:=by
 rcases h with h|⟨h,id,cs,h1,h2,h3⟩
 ·exact .inl h
 ·exact .inr ⟨h,id,cs,h1,(k id (List.getElem?_eq_some_iff.1 h2).1).trans h2,h3⟩
theorem zIq.keep {m m':Mem} {d:D} {ks:List Fgn} (h:zIq m d ks) (k:∀id,id<m.boxes.length->m'.boxes[id]?=m.boxes[id]?):zIq m' d ks:=by
 rcases h with h|⟨h,id,cs,h1,h2,h3⟩
 ·exact .inl h
 ·exact .inr ⟨h,id,cs,h1,(k id (List.getElem?_eq_some_iff.1 h2).1).trans h2,h3⟩
theorem zZe.keep {m m':Mem} {d:D} {t:Tbl} (h:zZe m d t) (k:∀id,id<m.boxes.length->m'.boxes[id]?=m.boxes[id]?):zZe m' d t:=by
 obtain⟨tag,kD,fD,h1,h2,h3⟩:=h
 exact⟨tag,kD,fD,h1,h2.keep k,h3.keep k⟩
theorem zIo.lenT {m:Mem} {d:D} {ks:List (Sl I64)} (h:zIo m d ks) (P:Program) (u:Nat):lenT P u d=match zI P u with|some _=>some ks.length|none=>none:=by
 rcases h with⟨h,rfl|rfl⟩|⟨h,id,cs,rfl,h2,h3⟩
 ·subst h;exact zDl P u
 ·subst h;exact qN P u _ _ _
 ·rfl
theorem zIq.lenT {m:Mem} {d:D} {ks:List Fgn} (h:zIq m d ks) (P:Program) (u:Nat):lenT P u d=match zI P u with|some _=>some ks.length|none=>none:=by
 rcases h with⟨h,rfl|rfl⟩|⟨h,id,cs,rfl,h2,h3⟩
 ·subst h;exact zDl P u
 ·subst h;exact qN P u _ _ _
 ·rfl
theorem zKd {α:Type} (tag:Option Nat) (k:Nat) (f:α->D) (s:Sl α):(slT tag k f s).isO=false:=by
 unfold slT;cases s.1<;>rfl
@[go_sem] theorem xQi {α:Type} (tag:Option Nat) (k:Nat) (f:α->D) (s:Sl α):(slT tag k f s).okC=true:=by
 unfold slT;cases s.1<;>rfl
@[go_sem] theorem xDs {α:Type} (tag:Option Nat) (k:Nat) (f:α->D) (s:Sl α):(slT tag k f s).cells=[slT tag k f s]:=by
 unfold slT;cases s.1<;>rfl
theorem zFu {cs:List D} (h:∀d,cs[0]?=some d->d.isO=false):wB cs=false:=by
 match cs with
 |[]=>rfl
 |[a]=>exact h a rfl
 |a::b::r=>rfl
theorem zJa {α:Type} {f:α->D} (hf:∀a,(f a).cells=[f a]) (l:List α):zV (l.map f)=l.map f:=by
 induction l with
 |nil=>rfl
 |cons a r ih=>rw[List.map_cons,zV,hf,ih];rfl
theorem zHh {α:Type} {f:α->D} {a b c:α->D} (hf:∀x,(f x).cells=[a x,b x,c x]):∀(l:List α) (i:Nat) (x:α),l[i]?=some x->(zV (l.map f))[i*3]?=some (a x)/\(zV (l.map f))[i*3+1]?=some (b x)/\(zV (l.map f))[i*3+2]?=some (c x)
 |[],i,x,h=>by simp at h
 |y::r,0,x,h=>by
  simp at h;subst h
  rw[List.map_cons,zV,hf]
  exact⟨rfl,rfl,rfl⟩
 |y::r,i+1,x,h=>by
  have ih:=zHh hf r i x (by simpa using h)
  rw[List.map_cons,zV,hf]
  rw[show (i+1)*3=i*3+3 by omega,show i*3+3+1=i*3+1+3 by omega,show i*3+3+2=i*3+2+3 by omega]
  exact ih
def vdK (k tok:Nat) (rows:List D):D:=match rows with|[]=>.nil|_::_=>.slice (some (tok+1)) k rows
theorem ySo (k tok:Nat) (m:Mem) (L:List D) (x:D) (h:L≠[]->m.toks[tok]?=some L.length):∃tok' tk,zZ k m (vdK k tok L) [x]=some (vdK k tok' (L++[x]),⟨m.boxes,tk⟩)/\tk[tok']?=some (L.length+1):=by
 cases L with
 |nil=>exact⟨m.toks.length,m.toks++[1],rfl,by simp⟩
 |cons a r=>
  have h:=h (by simp)
  refine⟨tok,m.toks.set tok (a::r++[x]).length,?_,?_⟩
  ·simp[vdK,zZ,h]
  ·rw[List.getElem?_set_self (List.getElem?_eq_some_iff.1 h).1];simp
theorem qW (m:Mem) (k tok:Nat) (l:List D):zY m k (vdK k tok l)=some l:=by
 cases l with
 |nil=>rfl
 |cons a r=>simp[vdK,zY]
theorem zIx (P:Program) (u k tok:Nat) (l:List D):lenT P u (vdK k tok l)=match zI P u with|some _=>some l.length|none=>none:=by
 cases l with
 |nil=>exact zDl P u
 |cons a r=>exact qN P u _ _ _
@[go_sem] theorem xQg (k tok:Nat) (l:List D):(vdK k tok l).okC=true:=by cases l<;>rfl
theorem Fr.len0 {m m':Mem} (h:Fr [] [] [] [] m m'):∀id,id<m.boxes.length->m'.boxes[id]?=m.boxes[id]?:=λid h1=>h.keep id h1 (by simp)
@[go_sem] theorem xDq (k tok:Nat) (l:List D):(vdK k tok l).cells=[vdK k tok l]:=by cases l<;>rfl
theorem yNn (m:Mem) (bx:List (List D)) (tk:List Nat):Fr [] [] [] [] m ⟨m.boxes++bx,m.toks++tk⟩ where
 len:=by simp
 tlen:=by simp
 keep id h _:=List.getElem?_append_left h
 tkeep id h _:=List.getElem?_append_left h
 sub id h:=by simp at h
 tsub id h:=by simp at h
theorem yNm {m m':Mem} (h:Fr [] [] [] [] m m') {id:Nat} (hid:m.boxes.length<=id) (cs:List D) (tk:List Nat):Fr [] [] [] [] m ⟨m'.boxes.set id cs,m'.toks++tk⟩ where
 len:=by rw[List.length_set];exact h.len
 tlen:=by rw[List.length_append];exact Nat.le_trans h.tlen (Nat.le_add_right _ _)
 keep j hj hn:=by
  show (m'.boxes.set id cs)[j]?=_
  rw[List.getElem?_set_ne (by omega)];exact h.keep j hj hn
 tkeep j hj hn:=by
  show (m'.toks++tk)[j]?=_
  rw[List.getElem?_append_left (Nat.lt_of_lt_of_le hj h.tlen)];exact h.tkeep j hj hn
 sub j h:=by simp at h
 tsub j h:=by simp at h
theorem zIo.okC {m:Mem} {d:D} {ks:List (Sl I64)} (h:zIo m d ks):d.okC=true/\d.cells=[d]:=by
 rcases h with⟨h,rfl|rfl⟩|⟨h,id,cs,rfl,h2,h3⟩<;>exact⟨rfl,rfl⟩
theorem zIq.okC {m:Mem} {d:D} {ks:List Fgn} (h:zIq m d ks):d.okC=true/\d.cells=[d]:=by
 rcases h with⟨h,rfl|rfl⟩|⟨h,id,cs,rfl,h2,h3⟩<;>exact⟨rfl,rfl⟩
theorem zCy (c:Sl I64):(sl 1 I c).cells=[sl 1 I c]:=zAh 1 I c
theorem zLg (f:Fgn):(yH f).cells=[slT none 1 I f.cols,.int .i64 f.table.1,.int .i64 f.key.1]:=by
 unfold yH
 rw[zGh]
 rfl
theorem zTx (f:Fgn):(yH f).cells.length=3:=by rw[zLg];rfl
structure CpI (s:Sl Tbl) (k:Nat) (L:List D) (tok:Nat) (m:Mem):Prop where
 hk:k<=s.items.length
 len:L.length=k
 tk:L≠[]->m.toks[tok]?=some L.length
 at_:∀(i:Nat) (d:D),L[i]?=some d->∃t,s.items[i]?=some t/\zZe m d t
theorem copy110 (s:Sl Tbl) (hs:s.items.length<=1000) (hb:∀t∈s.items,t.cols.items.length<=1000/\t.keys.items.length<=1000/\t.fgns.items.length<=1000/\(∀c∈t.keys.items,c.items.length<=1000)/\∀f∈t.fgns.items,f.cols.items.length<=1000) :
  ∃d,zA (XG G) TT 110 [sl 5 zQ s]=some d/\∃L tok m,d=frz m (vdK 5 tok L)/\CpI s s.items.length L tok m:=by
 refine zS T110 rfl (by simp only[go_sem]) ?_
 unfold Tryz.f110 xLb
 simp only[Option.getD_some]
 have hlt:=s.lt
 simp +decide only[go_sem]
 refine gw trivial ?_
 refine lpC (T:=Nat×List D×Nat×Mem) [3,8,9,10] (λp=>[(10,.int .i64 (p.1:Int)),(3,vdK 5 p.2.2.1 p.2.1)]) (λ_=>[]) (λp=>p.2.2.2) (λp=>CpI s p.1 p.2.1 p.2.2.1 p.2.2.2) (λp=>s.items.length-p.1) (0,[],0,⟨[],[]⟩) (by exact⟨Nat.zero_le _,rfl,λh=>absurd rfl h,λi d h=>by simp at h⟩) ?_
 rintro ⟨k,L,tok,m⟩ hI
 simp only at hI ⊢
 by_cases h:k<s.items.length
 ·obtain⟨l_t,t,g_t,w_t⟩:=elm (L:=s.items) (k:=k) (by assumption) (by omega)
  obtain⟨b1,b2,b3,b4,b5⟩:=hb t (List.mem_of_getElem? g_t)
  obtain⟨t1,tk1,c166⟩:=yLn (G:=G) m t.cols (by omega)
  obtain⟨kD,bx1,c167,hkD⟩:=yLm (G:=G) ⟨m.boxes,m.toks++tk1⟩ t.keys (by omega)
  have hm2:zIo ⟨m.boxes++bx1,m.toks++tk1⟩ kD t.keys.items/\∀id∈uU kD,m.boxes.length<=id:=by
   rcases hkD with⟨e1,rfl,e2⟩|⟨e1,rfl,rfl⟩
   ·refine⟨.inl ⟨e1,e2⟩,?_⟩
    rcases e2 with rfl|rfl<;>(intro id hid;simp[uU] at hid)
   ·refine⟨.inr ⟨e1,m.boxes.length,zV (t.keys.items.map (sl 1 I)),rfl,by simp,?_,?_⟩,λid hid=>by simp[uU] at hid;omega⟩
    ·rw[zJa zCy,List.length_map]
    ·intro i c hc
     rw[zJa zCy,List.getElem?_map,hc]
     exact⟨none,rfl⟩
  have hF2:=yNn m bx1 tk1
  obtain⟨k1,k2⟩:=hm2.1.okC
  have k3:=hm2.1.lenT
  clear hkD
  refine gw (an8 l_t g_t w_t k1 k2 k3 c166 c167) ?_
  refine lpC (T:=Nat×Mem) [3,5,8,9,10,24,25] (λp=>[(25,.int .i64 (p.1:Int))]) (λ_=>[]) (λp=>p.2) (λp=>p.1<=t.keys.items.length/\Fr [] [] [] [] m p.2/\zIo p.2 kD t.keys.items) (λp=>t.keys.items.length-p.1) (0,⟨m.boxes++bx1,m.toks++tk1⟩) (by exact⟨Nat.zero_le _,hF2,hm2.1⟩) ?_
  rintro ⟨j,m3⟩ ⟨hj,hF3,hK3⟩
  simp only at hj hF3 hK3 ⊢
  by_cases hjl:j<t.keys.items.length
  ·obtain⟨l_c,c,g_c,w_c⟩:=elm (L:=t.keys.items) (k:=j) (by assumption) (by omega)
   rcases hK3 with⟨e,_⟩|⟨_,id,cs,rfl,hb,hcl,hcs⟩
   ·rw[e] at hjl;simp at hjl
   obtain⟨tg,hcj⟩:=hcs j c g_c
   obtain⟨t2,tk2,c168⟩:=zPo (G:=G) m3 tg c (by have:=b4 c (List.mem_of_getElem? g_c);omega)
   have ho:wB cs=false:=zFu λd hd=>by
    have:0<t.keys.items.length:=by omega
    obtain⟨tg0,h0⟩:=hcs 0 _ (List.getElem?_eq_getElem this)
    rw[hd] at h0;cases h0;exact zKd _ _ _ _
   have hid:m.boxes.length<=id:=hm2.2 id (by simp[uU])
   have l2:(j+1<=t.keys.items.length)=True:=eq_true hjl
   refine gw (an9 l_t g_t w_t k1 k2 k3 l_c g_c (an7 w_c hb hcj ho c168 hcl l2)) ?_
   refine⟨(j+1,⟨m3.boxes.set id (cs.set j (slT (some t2) 1 I c)),m3.toks++tk2⟩),by simp +decide only[go_sem]<;>rfl,⟨hjl,yNm hF3 hid _ _,.inr ⟨λe=>by rw[e] at hjl;simp at hjl,id,_,rfl,List.getElem?_set_self (List.getElem?_eq_some_iff.1 hb).1,by rw[List.length_set];exact hcl,?_⟩⟩,by simp only;omega⟩
   intro i c' hc'
   by_cases e:j=i
   ·subst e
    rw[g_c] at hc';cases hc'
    exact⟨some t2,List.getElem?_set_self (by omega)⟩
   ·obtain⟨tg',h'⟩:=hcs i c' hc'
    exact⟨tg',by rw[List.getElem?_set_ne e];exact h'⟩
  ·have l_c:((j:Int)<((t.keys.items).length:Int))=False:=by simp;omega
   obtain⟨fD,bx2,c169,hfD⟩:=yLl (G:=G) m3 t.fgns (by omega)
   have hm4:zIq ⟨m3.boxes++bx2,m3.toks⟩ fD t.fgns.items/\∀id∈uU fD,m3.boxes.length<=id:=by
    rcases hfD with⟨e1,rfl,e2⟩|⟨e1,rfl,rfl⟩
    ·refine⟨.inl ⟨e1,e2⟩,?_⟩
     rcases e2 with rfl|rfl<;>(intro id hid;simp[uU] at hid)
    ·refine⟨.inr ⟨e1,m3.boxes.length,zV (t.fgns.items.map yH),rfl,by simp,?_,?_⟩,λid hid=>by simp[uU] at hid;omega⟩
     ·rw[yN (k:=3),List.length_map]
      intro d hd
      obtain⟨f,_,rfl⟩:=List.mem_map.1 hd
      exact zTx f
     ·intro i f hf
      obtain⟨h1,h2,h3⟩:=zHh zLg t.fgns.items i f hf
      exact⟨none,h1,h2,h3⟩
   have hF4:Fr [] [] [] [] m3 ⟨m3.boxes++bx2,m3.toks⟩:=by have:=yNn m3 bx2 [];rwa [List.append_nil] at this
   have hK4:=hK3.keep hF4.len0
   obtain⟨k4,k5⟩:=hm4.1.okC
   have k6:=hm4.1.lenT
   clear hfD
   refine gw (an9 l_t g_t w_t k1 k2 k3 l_c k4 (an3 k5 k6 c169)) ?_
   refine lpC (T:=Nat×Mem) [3,5,8,9,10,45,46] (λp=>[(46,.int .i64 (p.1:Int))]) (λ_=>[]) (λp=>p.2) (λp=>p.1<=t.fgns.items.length/\Fr [] [] [] [] m3 p.2/\zIq p.2 fD t.fgns.items) (λp=>t.fgns.items.length-p.1) (0,⟨m3.boxes++bx2,m3.toks⟩) (by exact⟨Nat.zero_le _,hF4,hm4.1⟩) ?_
   rintro ⟨q,m5⟩ ⟨hq,hF5,hK5⟩
   simp only at hq hF5 hK5 ⊢
   by_cases hql:q<t.fgns.items.length
   ·obtain⟨l_f,f,g_f,w_f⟩:=elm (L:=t.fgns.items) (k:=q) (by assumption) (by omega)
    rcases hK5 with⟨e,_⟩|⟨_,id,cs,rfl,hb,hcl,hcs⟩
    ·rw[e] at hql;simp at hql
    obtain⟨tg,x1,x2,x3⟩:=hcs q f g_f
    obtain⟨t2,tk2,c168⟩:=zPo (G:=G) m5 tg f.cols (by have:=b5 f (List.mem_of_getElem? g_f);omega)
    have ho:wB cs=false:=zFu λd hd=>by
     have:0<t.fgns.items.length:=by omega
     obtain⟨tg0,h0,_⟩:=hcs 0 _ (List.getElem?_eq_getElem this)
     rw[hd] at h0;cases h0;exact zKd _ _ _ _
    have hid:m3.boxes.length<=id:=hm4.2 id (by simp[uU])
    have l2:(q*3+0+1<=t.fgns.items.length*3)=True:=eq_true (by omega)
    have x1':cs[q*3+0]?=some (slT tg 1 I f.cols):=x1
    refine gw (an9 l_t g_t w_t k1 k2 k3 l_c k4 (an9 k5 k6 l_f g_f w_f hb x1' ho (an3 c168 hcl l2))) ?_
    refine⟨(q+1,⟨m5.boxes.set id (cs.set (q*3+0) (slT (some t2) 1 I f.cols)),m5.toks++tk2⟩),by simp +decide only[go_sem]<;>rfl,⟨hql,yNm hF5 hid _ _,.inr ⟨λe=>by rw[e] at hql;simp at hql,id,_,rfl,List.getElem?_set_self (List.getElem?_eq_some_iff.1 hb).1,by rw[List.length_set];exact hcl,?_⟩⟩,by simp only;omega⟩
    intro i f' hf'
    have y:∀j,j≠q*3->(cs.set (q*3+0) (slT (some t2) 1 I f.cols))[j]?=cs[j]?:=λj h=>List.getElem?_set_ne (by omega)
    by_cases e:q=i
    ·subst e
     rw[g_f] at hf';cases hf'
     exact⟨some t2,List.getElem?_set_self (by omega),(y _ (by omega)).trans x2,(y _ (by omega)).trans x3⟩
    ·obtain⟨tg',h1,h2,h3⟩:=hcs i f' hf'
     exact⟨tg',(y _ (by omega)).trans h1,(y _ (by omega)).trans h2,(y _ (by omega)).trans h3⟩
   ·have l_f:((q:Int)<((t.fgns.items).length:Int))=False:=by simp;omega
    have hFm5:Fr [] [] [] [] m m5:=hF3.trans hF5
    obtain⟨tok',tk',ha,htk'⟩:=ySo 5 tok m5 L (.agg [.str t.name,slT (some t1) 6 yO t.cols,kD,fD,.nil]) (λh=>by
     have:=hI.tk h
     rw[hFm5.tkeep tok (List.getElem?_eq_some_iff.1 this).1 (by simp)];exact this)
    have y1:=qW m5 5 tok L
    have y2:(L.length+1<=16777216)=True:=eq_true (by have:=hI.len;omega)
    refine gw (an9 l_t g_t w_t k1 k2 k3 l_c k4 (an6 k5 k6 l_f ha y1 y2)) ?_
    refine⟨(k+1,L++[.agg [.str t.name,slT (some t1) 6 yO t.cols,kD,fD,.nil]],tok',⟨m5.boxes,tk'⟩),by simp +decide only[go_sem]<;>rfl,⟨h,by simp[hI.len],λ_=>by simpa using htk',?_⟩,by simp only;omega⟩
    intro i d hd
    by_cases hi:i<L.length
    ·rw[List.getElem?_append_left hi] at hd
     obtain⟨t',g1,g2⟩:=hI.at_ i d hd
     exact⟨t',g1,(g2.keep hFm5.len0)⟩
    ·have hi2:i<(L++[D.agg [.str t.name,slT (some t1) 6 yO t.cols,kD,fD,.nil]]).length:=(List.getElem?_eq_some_iff.1 hd).1
     have hL:=hI.len
     obtain rfl:i=k:=by simp at hi2;omega
     rw[<-hL] at hd
     simp at hd
     subst hd
     exact⟨t,g_t,t1,kD,fD,rfl,(hK3.keep hF5.len0),hK5⟩
 ·have l_t:((k:Int)<((s.items).length:Int))=False:=by simp;omega
  refine gw l_t ?_
  simp +decide only[go_sem]
  exact⟨L,tok,m,rfl,by have:=hI.hk;rw[show s.items.length=k by omega];exact hI⟩
end Go.Eng
namespace Go.Eng
open Go Go.Proofs
variable {G:Nat->Option (List D)}
theorem zCt {α:Type} {g:Nat->Nat->Nat->Nat->D} {tag:Option Nat} {k:Nat} {f:α->D} (s:Sl α) (h:∀x,zF g (f x)=f x):zF g (slT tag k f s)=sl k f s:=by
 have:=xL (g:=g) k f s h
 unfold slT;unfold sl at *
 cases hs:s.1 with
 |none=>rfl
 |some l=>rw[hs] at this;exact this
theorem uR (g:Nat->Nat->Nat->Nat->D) (l:List D):zC g l=l.map (zF g):=by
 induction l with
 |nil=>rfl
 |cons a r ih=>rw[zR,ih,List.map_cons]
theorem zIo.frz {m:Mem} {d:D} {ks:List (Sl I64)} (h:zIo m d ks) (hl:ks.length<=1000):∃s':Sl (Sl I64),s'.items=ks/\zF (vM m m.boxes.length) d=sl 1 (sl 1 I) s':=by
 rcases h with⟨rfl,rfl|rfl⟩|⟨hne,id,cs,rfl,hb,hcl,hcs⟩
 ·exact⟨⟨none,by simp⟩,rfl,rfl⟩
 ·exact⟨⟨some [],by simp⟩,rfl,rfl⟩
 ·refine⟨⟨some ks,by simp only[Option.getD_some];omega⟩,rfl,?_⟩
  have hid:id<m.boxes.length:=(List.getElem?_eq_some_iff.1 hb).1
  obtain⟨N,hN⟩:∃N,m.boxes.length=N+1:=⟨m.boxes.length-1,by omega⟩
  rw[hN]
  have hpos:0<ks.length:=List.length_pos_iff.2 hne
  have ho:wB cs=false:=zFu λd hd=>by
   obtain⟨tg0,h0⟩:=hcs 0 _ (List.getElem?_eq_getElem hpos)
   rw[hd] at h0;cases h0;exact zKd _ _ _ _
  rw[zDu,zDq (wQ hb ho) (by decide)]
  have hfl:zC (vM m N) cs=zV (ks.map (sl 1 I)):=by
   rw[zJa zCy,uR]
   apply List.ext_getElem?
   intro i
   rw[List.getElem?_map,List.getElem?_map]
   cases hk:ks[i]? with
   |none=>
    have:cs.length<=i:=by rw[hcl];exact List.getElem?_eq_none_iff.1 hk
    rw[List.getElem?_eq_none this];rfl
   |some c=>
    obtain⟨tg,hc⟩:=hcs i c hk
    rw[hc]
    show some _=some _
    rw[zCt c zEm]
  simp only[Nat.zero_add,Nat.mul_one,hcl,Nat.le_refl,decide_true,cond_true,List.drop_zero]
  rw[hfl,wT (λa=>by rw[zCy];rfl) (λa=>by rw[zCy];rfl)]
  rfl
theorem yZt (f:Fgn):yBn 3 (yH f).cells=yH f:=rfl
theorem zIq.frz {m:Mem} {d:D} {fs:List Fgn} (h:zIq m d fs) (hl:fs.length<=1000):∃s':Sl Fgn,s'.items=fs/\zF (vM m m.boxes.length) d=sl 3 yH s':=by
 rcases h with⟨rfl,rfl|rfl⟩|⟨hne,id,cs,rfl,hb,hcl,hcs⟩
 ·exact⟨⟨none,by simp⟩,rfl,rfl⟩
 ·exact⟨⟨some [],by simp⟩,rfl,rfl⟩
 ·refine⟨⟨some fs,by simp only[Option.getD_some];omega⟩,rfl,?_⟩
  have hid:id<m.boxes.length:=(List.getElem?_eq_some_iff.1 hb).1
  obtain⟨N,hN⟩:∃N,m.boxes.length=N+1:=⟨m.boxes.length-1,by omega⟩
  rw[hN]
  have hpos:0<fs.length:=List.length_pos_iff.2 hne
  have ho:wB cs=false:=zFu λd hd=>by
   obtain⟨tg0,h0,_⟩:=hcs 0 _ (List.getElem?_eq_getElem hpos)
   rw[hd] at h0;cases h0;exact zKd _ _ _ _
  rw[zDu,zDq (wQ hb ho) (by decide)]
  have hfl:zC (vM m N) cs=zV (fs.map yH):=by
   have hlen:(zV (fs.map yH)).length=fs.length*3:=by
    rw[yN (k:=3),List.length_map]
    intro d hd
    obtain⟨f,_,rfl⟩:=List.mem_map.1 hd
    exact zTx f
   rw[uR]
   apply List.ext_getElem?
   intro j
   rw[List.getElem?_map]
   by_cases hj:j<fs.length*3
   ·obtain⟨f,hf⟩:∃f,fs[j / 3]?=some f:=⟨_,List.getElem?_eq_getElem (by omega)⟩
    obtain⟨tg,h1,h2,h3⟩:=hcs (j / 3) f hf
    obtain⟨g1,g2,g3⟩:=zHh zLg fs (j / 3) f hf
    have:j=j / 3*3\/j=j / 3*3+1\/j=j / 3*3+2:=by omega
    rcases this with e|e|e
    ·rw[e,h1,g1]
     show some _=some _
     rw[zCt f.cols zEm];rfl
    ·rw[e,h2,g2];rfl
    ·rw[e,h3,g3];rfl
   ·rw[List.getElem?_eq_none (by omega),List.getElem?_eq_none (by omega)];rfl
  simp only[Nat.zero_add,hcl,Nat.le_refl,decide_true,cond_true,List.drop_zero]
  rw[hfl,wT (λa=>zTx a) yZt]
  rfl
theorem zKw {α β:Type}:∀{P:Nat->α->β->Prop} (L:List α),(∀i d,L[i]?=some d->∃x,P i d x)->∃L':List β,L'.length=L.length/\∀i d x,L[i]?=some d->L'[i]?=some x->P i d x
 |P,[],_=>⟨[],rfl,λi d x h=>by simp at h⟩
 |P,a::r,h=>by
  obtain⟨x,hx⟩:=h 0 a rfl
  obtain⟨L',h1,h2⟩:=zKw (P:=λi d x=>P (i+1) d x) r λi d hd=>h (i+1) d (by simpa using hd)
  refine⟨x::L',by simp[h1],λi d y hd hy=>?_⟩
  cases i with
  |zero=>simp at hd hy;subst hd hy;exact hx
  |succ i=>exact h2 i d y (by simpa using hd) (by simpa using hy)
structure zTn (t t':Tbl):Prop where
 name:t'.name=t.name
 cols:t'.cols=t.cols
 keys:t'.keys.items=t.keys.items
 fgns:t'.fgns.items=t.fgns.items
theorem zZe.frz {m:Mem} {d:D} {t:Tbl} (h:zZe m d t) (hk:t.keys.items.length<=1000) (hf:t.fgns.items.length<=1000):∃t',zTn t t'/\zF (vM m m.boxes.length) d=zQ t':=by
 obtain⟨tag,kD,fD,rfl,h1,h2⟩:=h
 obtain⟨ks,e1,e2⟩:=h1.frz hk
 obtain⟨fs,e3,e4⟩:=h2.frz hf
 refine⟨⟨t.name,t.cols,ks,fs,⟨none,by simp⟩⟩,⟨rfl,rfl,e1,e3⟩,?_⟩
 simp only[zDv,zR,yF,e2,e4,zQ]
 rw[zCt t.cols (λx=>rfl)]
 rfl
theorem yKz {s:Sl Tbl} {L:List D} {tok:Nat} {m:Mem} (h:CpI s s.items.length L tok m) (hs:s.items.length<=1000) (hb:∀t∈s.items,t.keys.items.length<=1000/\t.fgns.items.length<=1000) :
  ∃s':Sl Tbl,frz m (vdK 5 tok L)=sl 5 zQ s'/\s'.items.length=s.items.length/\∀(i:Nat) (t:Tbl),s.items[i]?=some t->∃t',s'.items[i]?=some t'/\zTn t t':=by
 have key:∃L':List Tbl,zC (vM m m.boxes.length) L=L'.map zQ/\L'.length=L.length/\∀(i:Nat) (t:Tbl),s.items[i]?=some t->i<L.length->∃t',L'[i]?=some t'/\zTn t t':=by
  obtain⟨L',h1,h2⟩:=zKw (P:=λi d (t':Tbl)=>zF (vM m m.boxes.length) d=zQ t'/\∀t,s.items[i]?=some t->zTn t t') L λi d hd=>by
   obtain⟨t,ht,hT⟩:=h.at_ i d hd
   obtain⟨b1,b2⟩:=hb t (List.mem_of_getElem? ht)
   obtain⟨t',s1,s2⟩:=hT.frz b1 b2
   exact⟨t',s2,λt0 h0=>by rw[ht] at h0;cases h0;exact s1⟩
  refine⟨L',?_,h1,λi t ht hi=>?_⟩
  ·rw[uR]
   apply List.ext_getElem?
   intro i
   rw[List.getElem?_map,List.getElem?_map]
   cases hd:L[i]? with
   |none=>
    have:=List.getElem?_eq_none_iff.1 hd
    rw[List.getElem?_eq_none (by omega)];rfl
   |some d=>
    have hi:=(List.getElem?_eq_some_iff.1 hd).1
    have hx:L'[i]?=some L'[i]:=List.getElem?_eq_getElem (by omega)
    rw[hx]
    exact congrArg some (h2 i d _ hd hx).1
  ·have hx:L'[i]?=some L'[i]:=List.getElem?_eq_getElem (by omega)
   exact⟨_,hx,(h2 i _ _ (List.getElem?_eq_getElem hi) hx).2 t ht⟩
 obtain⟨L',g1,g2,g3⟩:=key
 have hL:=h.len
 cases L with
 |nil=>
  refine⟨⟨none,by simp⟩,rfl,by simpa [Sl.items] using hL,λi t ht=>?_⟩
  have:=(List.getElem?_eq_some_iff.1 ht).1
  simp at hL;omega
 |cons a r=>
  refine⟨⟨some L',by simp only[Option.getD_some];omega⟩,?_,by show L'.length=_;omega,λi t ht=>g3 i t ht (by have:=(List.getElem?_eq_some_iff.1 ht).1;omega)⟩
  rw[zUd]
  show zF _ (.slice (some (tok+1)) 5 (a::r))=.slice none 5 (L'.map zQ)
  rw[yY,g1]
theorem copy110' (s:Sl Tbl) (hs:s.items.length<=1000) (hb:∀t∈s.items,t.cols.items.length<=1000/\t.keys.items.length<=1000/\t.fgns.items.length<=1000/\(∀c∈t.keys.items,c.items.length<=1000)/\∀f∈t.fgns.items,f.cols.items.length<=1000) :
  ∃s':Sl Tbl,zA (XG G) TT 110 [sl 5 zQ s]=some (sl 5 zQ s')/\s'.items.length=s.items.length/\∀(i:Nat) (t:Tbl),s.items[i]?=some t->∃t',s'.items[i]?=some t'/\zTn t t':=by
 obtain⟨d,hc,L,tok,m,rfl,hI⟩:=copy110 (G:=G) s hs hb
 obtain⟨s',h1,h2⟩:=yKz hI hs λt ht=>⟨(hb t ht).2.1,(hb t ht).2.2.1⟩
 exact⟨s',by rw[hc,h1],h2⟩
end Go.Eng
namespace Go.Eng
open Go Go.Proofs
structure IxS where
 cols:Sl I64
 tag:Nat
 T:TrL
def ixE (x:IxS):D:=.agg [slT (some x.tag) 1 I x.cols,.ptr x.T.t 0]
structure xV where
 s:Nat
 cols:Nat
 T:TrL
 tok:Nat
 rows:List D
 itok:Nat
 ix:List IxS
def uO (l:List IxS):List Nat:=l.flatMap λx=>x.T.ids
def xV.ids (S:xV):List Nat:=S.s::(S.T.ids++uO S.ix)
def xV.tks (S:xV):List Nat:=tkR S.tok S.rows++tkR S.itok (S.ix.map ixE)
structure wG (m:Mem) (S:xV):Prop where
 hs:∃next:Int,m.boxes[S.s]?=some [.int .i64 (S.cols:Int),.ptr S.T.t 0,.int .i64 next,vdK 2 S.itok (S.ix.map ixE)]
 tr:TrR m S.T S.tok S.rows
 it:S.ix≠[]->m.toks[S.itok]?=some S.ix.length
 ih:∀x∈S.ix,TrN m x.T S.rows.length/\x.cols.items.length<=20
 nd:S.ids.Nodup
 tnd:S.tks.Nodup
theorem wG.keep {m m':Mem} {S:xV} (h:wG m S) (k:∀id∈S.ids,m'.boxes[id]?=m.boxes[id]?) (kt:∀id∈S.tks,m'.toks[id]?=m.toks[id]?):wG m' S where
 hs:=by obtain⟨n,hn⟩:=h.hs;exact⟨n,(k _ (by simp[xV.ids])).trans hn⟩
 tr:=h.tr.keep (λid hi=>k id (by simp[xV.ids,hi])) (λid hi=>kt id (by simp[xV.tks,hi]))
 it hn:=(kt _ (by simp only[xV.tks,List.mem_append];exact .inr (zKa (by simpa using hn)))).trans (h.it hn)
 ih x hx:=⟨(h.ih x hx).1.keep λid hi=>k id (by
  simp only[xV.ids,List.mem_cons,List.mem_append,uO,List.mem_flatMap];exact .inr (.inr ⟨x,hx,hi⟩)),(h.ih x hx).2⟩
 nd:=h.nd
 tnd:=h.tnd
theorem wG.lt {m:Mem} {S:xV} (h:wG m S):∀id∈S.ids,id<m.boxes.length:=by
 intro id hi
 simp only[xV.ids,List.mem_cons,List.mem_append,uO,List.mem_flatMap] at hi
 rcases hi with rfl|hi|⟨x,hx,hi⟩
 ·obtain⟨n,hn⟩:=h.hs;exact(List.getElem?_eq_some_iff.1 hn).1
 ·exact h.tr.lt id hi
 ·exact(h.ih x hx).1.lt id hi
theorem wG.tlt {m:Mem} {S:xV} (h:wG m S):∀id∈S.tks,id<m.toks.length:=by
 intro id hi
 simp only[xV.tks,List.mem_append] at hi
 rcases hi with hi|hi
 ·exact h.tr.tlt id hi
 ·cases hx:S.ix with
  |nil=>rw[hx] at hi;simp[tkR] at hi
  |cons a r=>
   rw[hx] at hi
   simp[tkR] at hi
   subst hi
   exact(List.getElem?_eq_some_iff.1 (h.it (by rw[hx];simp))).1
theorem zKi {A B B' C:List Nat} {n:Nat} (h:(A++(B++C)).Nodup) (hlt:∀x∈A++(B++C),x<n) (hB:B'.Nodup) (hs:∀x∈B',x∈B\/n<=x):(A++(B'++C)).Nodup:=by
 simp only[List.nodup_append,List.mem_append] at *
 obtain⟨h1,⟨h2,h3,h4⟩,h5⟩:=h
 refine⟨h1,⟨hB,h3,λa ha b hb=>?_⟩,λa ha b hb=>?_⟩
 ·rcases hs a ha with h|h
  ·exact h4 a h b hb
  ·have:=hlt b (.inr (.inr hb));omega
 ·rcases hb with hb|hb
  ·rcases hs b hb with h|h
   ·exact h5 a ha b (.inl h)
   ·have:=hlt a (.inl ha);omega
  ·exact h5 a ha b (.inr hb)
theorem wG.more {m:Mem} {S:xV} (h:wG m S) (bx:List (List D)) (tk:List Nat):wG ⟨m.boxes++bx,m.toks++tk⟩ S:=
 h.keep (λid hi=>List.getElem?_append_left (h.lt id hi)) (λid hi=>List.getElem?_append_left (h.tlt id hi))
end Go.Eng
