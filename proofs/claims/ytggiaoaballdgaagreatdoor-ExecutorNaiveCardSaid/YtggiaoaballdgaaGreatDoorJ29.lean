/- A part of the proof: see the last text. -/
import Derived.Test.YtggiaoaballdgaaGreatDoorJ28
import Derived.Test.YtggiaoaballdgaaGreatDoorJ12
set_option linter.unusedSimpArgs false
set_option linter.unusedVariables false
namespace Go.Eng
open Go Go.Proofs
open Nat renaming reduceAdd → ra, reduceMul → rb, reduceSub → rc
set_option maxRecDepth 20000
set_option maxHeartbeats 32000000
attribute [local irreducible] wpI xU
variable {G:Nat->Option (List D)}
def yBh (m:Mem) (d:D) (c:List Val):Prop:=(∃tag,d=.slice tag 3 (c.map vD))\/∃id,d=.rsl id 0 c.length 3/\m.boxes[id]?=some (zV (c.map vD))
theorem yFt (c:List Val):wB (zV (c.map vD))=false:=by cases c<;>rfl
theorem yBh.keep {m m':Mem} {d:D} {c:List Val} (h:yBh m d c) (k:∀id,id<m.boxes.length->m'.boxes[id]?=m.boxes[id]?):yBh m' d c:=by
 rcases h with h|⟨id,h1,h2⟩
 ·exact .inl h
 ·exact .inr ⟨id,h1,(k id (List.getElem?_eq_some_iff.1 h2).1).trans h2⟩
theorem yBh.frz {m:Mem} {d:D} {c:List Val} (h:yBh m d c):zF (vM m m.boxes.length) d=.slice none 3 (c.map vD):=by
 rcases h with⟨tag,rfl⟩|⟨id,rfl,h2⟩
 ·rw[yY,zL vD λv=>yW v]
 ·rw[zDu]
  exact zUc (k:=3) (f:=vD) (l:=c) (wQ h2 (yFt c)) rfl yCk (λ_=>rfl) (λ_ _=>rfl)
theorem yBh.ok {m:Mem} {d:D} {c:List Val} (h:yBh m d c):d.okC=true/\d.cells=[d]:=by
 rcases h with⟨tag,rfl⟩|⟨id,rfl,h2⟩<;>exact⟨rfl,rfl⟩
theorem yBh.no {m:Mem} {d:D} {c:List Val} (h:yBh m d c):d.isO=false:=by
 rcases h with⟨tag,rfl⟩|⟨id,rfl,h2⟩<;>rfl
@[go_sem] theorem yJw (k:Nat) (l:List D):(wW k l).okC=true:=by cases l<;>rfl
@[go_sem] theorem yAq (k:Nat) (l:List D):(wW k l).cells=[wW k l]:=by cases l<;>rfl
def xSm (id:Int) (c:List Val):D:=.agg [.int .i64 id,.slice none 3 (c.map vD)]
def qE (p:Int×List Val):D:=xSm p.1 p.2
def zQg (c:List Val) (off:Nat) (rs:List (Sl Val)):Nat->List (Int×List Val)
 |0=>[]
 |k+1=>zQg c off rs k++(match rs[k]? with|some r=>[(((k+1:Nat):Int),zQe c off r.items)]|none=>[])
theorem zSl {c:List Val} {off:Nat} {rs:List (Sl Val)} {k:Nat} {r:Sl Val} (h:rs[k]?=some r):zQg c off rs (k+1)=zQg c off rs k++[(((k+1:Nat):Int),zQe c off r.items)]:=by
 rw[zQg,h]
theorem zJd (c:List Val) (off:Nat):∀(rs:List (Sl Val)) (k:Nat),k<=rs.length->(zQg c off rs k).length=k
 |_,0,_=>rfl
 |rs,k+1,h=>by
  rw[zSl (List.getElem?_eq_getElem (by omega:k<rs.length)),List.length_append,zJd c off rs k (by omega)];rfl
def zQi (m:Mem) (d:D) (l:List (Int×List Val)):Prop:=(l=[]/\d=.nil)\/(l≠[]/\∃id,d=.rsl id 0 l.length 2/\m.boxes[id]?=some (zV (l.map qE)))
theorem zTw (p:Int×List Val):(qE p).cells.length=2:=rfl
theorem yNc (p:Int×List Val):yBn 2 (qE p).cells=qE p:=rfl
theorem zSd (l:List (Int×List Val)):wB (zV (l.map qE))=false:=by cases l<;>rfl
theorem zLc (l:List (Int×List Val)):(zV (l.map qE)).length=l.length*2:=by
 rw[yN (k:=2),List.length_map]
 intro d hd
 obtain⟨v,_,rfl⟩:=List.mem_map.1 hd
 exact zTw v
theorem zQi.keep {m m':Mem} {d:D} {l:List (Int×List Val)} (h:zQi m d l) (k:∀id∈uU d,m'.boxes[id]?=m.boxes[id]?):zQi m' d l:=by
 rcases h with h|⟨h,id,h1,h2⟩
 ·exact .inl h
 ·exact .inr ⟨h,id,h1,(k id (by rw[h1];simp[uU])).trans h2⟩
theorem yRp (m:Mem) (o:D) (L:List (Int×List Val)) (x:Int×List Val) (h:zQi m o L):∃m3,zY m 2 o=some (L.map qE)/\vX 2 m o (L.map qE) [qE x]=some (.rsl m.boxes.length 0 (L.length+1) 2,m3)/\m3.toks=m.toks/\m3.boxes.length=m.boxes.length+1/\m3.boxes[m.boxes.length]?=some (zV ((L++[x]).map qE))/\∀id,id<m.boxes.length->id∉uU o->m3.boxes[id]?=m.boxes[id]?:=by
 rcases h with⟨rfl,rfl⟩|⟨hne,id,rfl,hb⟩
 ·exact⟨⟨m.boxes++[zV [qE x]],m.toks⟩,rfl,rfl,rfl,by simp,by simp,λid hid _=>List.getElem?_append_left hid⟩
 ·have hbc:uN m id=some (zV (L.map qE)):=wQ hb (zSd L)
  have hlt:=(List.getElem?_eq_some_iff.1 hb).1
  have hp:0<L.length:=List.length_pos_iff.2 hne
  refine⟨⟨m.boxes.set id []++[zV (L.map qE++[qE x])],m.toks⟩,?_,?_,rfl,by simp,?_,λj hj hn=>?_⟩
  ·show (bif decide (2=2) then qG m id 0 L.length 2 else none)=_
   show qG m id 0 L.length 2=_
   unfold qG
   rw[hbc]
   simp only[Nat.zero_add,zLc,Nat.le_refl,decide_true,cond_true,List.drop_zero]
   rw[wT zTw yNc]
  ·have h2:(decide (2=2)&&(decide (0=0)&&(decide ((zV (L.map qE)).length=L.length*2)&&decide (0<L.length))))=true:=by
    rw[zLc];simp[hp]
   show (match uN m id with
    |some cs=>bif decide (2=2)&&(decide (0=0)&&(decide (cs.length=L.length*2)&&decide (0<L.length))) then some (D.rsl m.boxes.length 0 (L.map qE++[qE x]).length 2,Mem.mk (m.boxes.set id []++[zV (L.map qE++[qE x])]) m.toks) else none
    |none=>none)=_
   rw[hbc]
   show (bif decide (2=2)&&(decide (0=0)&&(decide ((zV (L.map qE)).length=L.length*2)&&decide (0<L.length))) then some (D.rsl m.boxes.length 0 (L.map qE++[qE x]).length 2,Mem.mk (m.boxes.set id []++[zV (L.map qE++[qE x])]) m.toks) else none)=_
   rw[h2]
   simp
  ·show (m.boxes.set id []++[zV (L.map qE++[qE x])])[m.boxes.length]?=_
   rw[List.getElem?_append_right (by simp),List.map_append];simp
  ·have hj':j≠id:=λe=>hn (by simp[uU,e])
   show (m.boxes.set id []++[zV (L.map qE++[qE x])])[j]?=_
   rw[List.getElem?_append_left (by simpa using hj),List.getElem?_set_ne (λe=>hj' e.symm)]
def xEg (st:D) (b:Bnd) (f:D):List D:=[st,.int .i64 5,.str [],.nil,.nil,.nil,.nil,.nil,.nil,.nil,sl 2 zAu b.src,.int .i64 b.w.a.1,.str b.w.s,.str b.w.t,.int .i64 b.w.b.1,.int .i64 b.w.c.1,.int .i64 b.w.d.1,.str b.w.u,sl 8 zM b.w.args,.nil,.nil,.int .i64 0,.str [],.int .i64 0,sl 1 I b.tabs,sl 5 vr b.vars,.nil,f]
structure SdI (m0 m:Mem) (st cD:D) (b:Bnd) (F:List D) (c:List Val) (source off:Nat) (rs:List (Sl Val)) (R:D) (k:Nat):Prop where
 len:m0.boxes.length+5<=m.boxes.length
 old:∀id,id<m0.boxes.length->m.boxes[id]?=m0.boxes[id]?
 b0:m.boxes[m0.boxes.length]?=some (xEg st b (wW 1 F))
 b1:m.boxes[m0.boxes.length+1]?=some [cD]
 b2:m.boxes[m0.boxes.length+2]?=some [.int .i64 (source:Int)]
 b3:∃o,m.boxes[m0.boxes.length+3]?=some [o]/\zQi m o (zQg c off rs k)/\∀id∈uU o,m0.boxes.length+5<=id
 b4:m.boxes[m0.boxes.length+4]?=some [R]
 tk:∀(t n:Nat),m0.toks[t]?=some n->m.toks[t]?=some n
theorem yJc (m:Mem) (st cD:D) (b:Bnd) (F:List D) (c:List Val) (source off:Nat) (a:Int) (rs:List (Sl Val)) (c1 b1:Int) (x:D) (hx:∀g,zF g x=x) (hst:∀g,zF g st=st) (hso:st.okC=true/\st.cells=[st]) (hF0:∀g,zC g F=F) (hF:F[source]?=some (.int .i64 (off:Int))) (hc:yBh m cD c) (hcne:c≠[]) (hcl:c.length<=100000)
  (hrl:rs.length<=1000) (hr:∀r∈rs,r.items≠[]/\r.items.length<=1000/\off+r.items.length<=c.length) :
  ∃d m',zG (XG G) TT 38 m [zYt st b (wW 1 F),cD,.int .i64 (source:Int),xEl (zBf a rs c1 b1 x)]=some (d,m')/\zQi m' d (zQg c off rs rs.length)/\(∀id,id<m.boxes.length->m'.boxes[id]?=m.boxes[id]?)/\(∀(t n:Nat),m.toks[t]?=some n->m'.toks[t]?=some n)/\m.boxes.length<=m'.boxes.length:=by
 refine zO T38 rfl ?_
 unfold Tryz.f38 F38
 simp only[Option.getD_some,zYt,yL,xEl]
 obtain⟨hs1,hs2⟩:=hso
 obtain⟨hc1,hc2⟩:=hc.ok
 have hok:=yJw 1 F
 have hce:=yAq 1 F
 have n1:∀X:List D,(m.boxes++[X]).length=m.boxes.length+1:=λX=>by simp
 have n2:∀X Y:List D,(m.boxes++[X]++[Y]).length=m.boxes.length+2:=λX Y=>by simp
 have n3:∀X Y Z:List D,(m.boxes++[X]++[Y]++[Z]).length=m.boxes.length+3:=λX Y Z=>by simp
 have n4:∀X Y Z W:List D,(m.boxes++[X]++[Y]++[Z]++[W]).length=m.boxes.length+4:=λX Y Z W=>by simp
 simp +decide only[go_sem,ra]
 refine gw (an9 hs1 hs2 hc1 hc2 hok hce n1 n2 n3) ?_
 refine wpI_rf' (f:=123) (cap:=[.ref [.func 74 [.ref [zBf a rs c1 b1 x] 0]] 0]) rfl (by decide) λR hR'=>?_
 have hR:R=.lrec _ [4,5,6,9] [.ptr m.boxes.length 0,.ptr (m.boxes.length+1) 0,.ptr (m.boxes.length+2) 0,.ptr (m.boxes.length+3) 0] [13,14] _ _ 0 0:=hR'
 clear hR'
 simp only[n4]
 obtain⟨d9,m9,h9,hPQ⟩:=yXv (G:=G) (m.boxes.length+4) (λk m'=>SdI m m' st cD b F c source off rs R k) (λ_=>False) a rs c1 b1 x hrl (λr h=>(hr r h).2.1) hx (λk m' tk h=>⟨h.len,h.old,h.b0,h.b1,h.b2,h.b3,h.b4,λt n e=>by
   have:=h.tk t n e
   show (m'.toks++tk)[t]?=some n
   rw[List.getElem?_append_left (List.getElem?_eq_some_iff.1 this).1];exact this⟩) (λk r t m' hri hI=>by
  left
  obtain⟨r1,r2,r3⟩:=hr r (List.mem_of_getElem? hri)
  obtain⟨o,ho,hfo,hido⟩:=hI.b3
  have hb4:=hI.b4
  rw[hR] at hb4
  refine yXp hb4 rfl ?_
  simp only[go_sem,List.zip_cons_cons,List.zip_nil_right,List.cons_append,List.nil_append]
  refine gw (an9 hs1 hs2 hc1 hc2 hok hce n1 n2 n3) ?_
  refine ySk hb4 λB hB1 hB2 hB3=>?_
  have hlen:=hI.len
  have e0:B[m.boxes.length]?=some (xEg st b (wW 1 F)):=(hB1 _ (by omega)).trans hI.b0
  have e1:B[m.boxes.length+1]?=some [cD]:=(hB1 _ (by omega)).trans hI.b1
  have e2:B[m.boxes.length+2]?=some [.int .i64 (source:Int)]:=(hB1 _ (by omega)).trans hI.b2
  have e3:B[m.boxes.length+3]?=some [o]:=(hB1 _ (by omega)).trans ho
  have hB3:B.length=m'.boxes.length:=hB3
  have hfB:zQi ⟨B,m'.toks⟩ o (zQg c off rs k):=hfo.keep λid hid=>hB1 _ (by have:=hido id hid;omega)
  have hcB:yBh ⟨B,m'.toks⟩ cD c:=hc.keep λid hid=>(hB1 _ (by omega)).trans (hI.old id hid)
  have hw:=yYh (G:=G) ⟨B,m'.toks⟩ st cD b F c r.items source off ((k+1:Nat):Int) t hst hF0 hF hcB.frz hcne r1 r3 hcl
  obtain⟨m3,f1,f2,f3,f4,f5,f6⟩:=yRp ⟨B,m'.toks⟩ o (zQg c off rs k) (((k+1:Nat):Int),zQe c off r.items) hfB
  have hkl:=(List.getElem?_eq_some_iff.1 hri).1
  have hal:=zJd c off rs k (by omega)
  have hml:((zQg c off rs k).map qE).length=k:=by rw[List.length_map,hal]
  simp only[zYt,yL,zGh,List.cons_append,List.nil_append] at hw
  simp only[xEg] at e0
  simp only[qE,xSm] at f1 f2
  have hon:o.isO=false:=by
   rcases hfB with⟨_,rfl⟩|⟨_,id,rfl,_⟩<;>rfl
  have z3:(k+1<=16777216)=True:=eq_true (by omega)
  have g3:m3.boxes[m.boxes.length+3]?=some [o]:=(f6 _ (by show m.boxes.length+3<B.length;omega) (λe=>by have:=hido _ e;omega)).trans e3
  simp only[go_sem]
  have ta:∀P:Prop,(True/\P)=P:=λP=>propext ⟨λh=>h.2,λh=>⟨trivial,h⟩⟩
  have hcn:=hc.no
  refine gw (an9 hs1 hs2 hc1 hc2 hok hce n1 n2 (an9 n3 e0 e1 e2 e3 hw f1 f2 (an7 hml hal hon hcn z3 g3 ta))) ?_
  have hB3':(Mem.mk B m'.toks).boxes.length=B.length:=rfl
  have l3:m3.boxes.length=B.length+1:=f4
  have k3:∀j,j<B.length->j∉uU o->m3.boxes[j]?=B[j]?:=f6
  have hno:∀j,j<m.boxes.length+5->j∉uU o:=λj hj e=>by have:=hido j e;omega
  have sA:=vZ g3 [D.rsl B.length 0 (k+1) 2]
  refine yQe (by
   show (m3.boxes.set (m.boxes.length+3) [D.rsl B.length 0 (k+1) 2])[m.boxes.length+4]?=_
   rw[sA.1 _ (by omega),k3 _ (by omega) (hno _ (by omega))];exact hB2) λC hC1 hC2 hC3=>?_
  have hC1:∀j,j≠m.boxes.length+4->C[j]?=(m3.boxes.set (m.boxes.length+3) [D.rsl B.length 0 (k+1) 2])[j]?:=hC1
  have hC3:C.length=(m3.boxes.set (m.boxes.length+3) [D.rsl B.length 0 (k+1) 2]).length:=hC3
  rw[sA.2.2] at hC3
  have hgo:∀j,j≠m.boxes.length+4->j≠m.boxes.length+3->j<m.boxes.length+5->C[j]?=B[j]?:=λj h1 h2 h3=>by
   rw[hC1 j h1,sA.1 j h2,k3 j (by omega) (hno j h3)]
  refine⟨rfl,⟨by show _<=C.length;omega,λid hid=>?_,(hgo _ (by omega) (by omega) (by omega)).trans e0,(hgo _ (by omega) (by omega) (by omega)).trans e1,(hgo _ (by omega) (by omega) (by omega)).trans e2,⟨.rsl B.length 0 (k+1) 2,?_,?_,λid h=>?_⟩,?_,λt n e=>by show m3.toks[t]?=some n;rw[f3];exact hI.tk t n e⟩⟩
  ·exact(hgo _ (by omega) (by omega) (by omega)).trans ((hB1 _ (by omega)).trans (hI.old id hid))
  ·exact(hC1 _ (by omega)).trans sA.2.1
  ·rw[zSl hri]
   refine .inr ⟨by simp,B.length,by simp[hal],?_⟩
   show C[B.length]?=_
   rw[hC1 _ (by omega),sA.1 _ (by omega)]
   exact f5
  ·simp[uU] at h;omega
  ·rw[hR];exact hC2) ⟨m.boxes++[xEg st b (wW 1 F)]++[[cD]]++[[.int .i64 (source:Int)]]++[[.nil]]++[[R]],m.toks⟩ (by
  refine⟨by simp,λid hid=>?_,?_,?_,?_,⟨.nil,?_,.inl ⟨rfl,rfl⟩,λid h=>by simp[uU] at h⟩,?_,λt n e=>e⟩
  ·simp only[List.append_assoc];exact List.getElem?_append_left hid
  ·simp
  ·simp
  ·simp
  ·simp
  ·simp)
 refine⟨d9,m9,h9,?_⟩
 have hI:=hPQ.resolve_right (λh=>h)
 obtain⟨o,ho,hfo,hido⟩:=hI.b3
 have hb4:=hI.b4
 rw[hR] at hb4
 have hlen:=hI.len
 refine ySt hb4 λB hB1 hB3=>?_
 have e3:B[m.boxes.length+3]?=some [o]:=(hB1 _ (by omega)).trans ho
 have hon:o.isO=false:=by
  rcases hfo with⟨_,rfl⟩|⟨_,id,rfl,_⟩<;>rfl
 simp only[go_sem]
 refine gw (an9 hs1 hs2 hc1 hc2 hok hce n1 n2 (an3 n3 e3 hon)) ?_
 simp +decide only[go_sem]
 exact⟨hfo.keep λid hid=>hB1 _ (by have:=hido id hid;omega),λid hid=>(hB1 _ (by omega)).trans (hI.old id hid),hI.tk,by
  have hB3:B.length=m9.boxes.length:=hB3
  show m.boxes.length<=B.length
  omega⟩
def rv (r:List Val):D:=.slice none 3 (r.map vD)
theorem yIg (m:Mem) (x y:List Val) (hx:x.length<=100000) (hy:y.length<=100000):zA (XG G) TT 43 [.slice none 3 (x.map vD),.slice none 3 (y.map vD)]=some (.int .i64 (yZ x y)):=
 xPk (G:=G) (slV x (by omega)) (slV y (by omega))
theorem zUa {α:Type} (A:List α) (x:α) (B:List α):(A++x::B)[A.length]?=some x:=by simp
theorem zTs {α:Type} (A:List α) (x y:α) (B:List α):(A++x::B).set A.length y=A++y::B:=by simp
theorem zHl (l:List (List Val)):wB (l.map rv)=false:=zOn (λ_=>rfl) l
theorem yNi (m:Mem) (id:Nat) (hid:id<m.boxes.length) (P M S:List (List Val)) (hl:∀r∈P++M++S,r.length<=100000) (hn:(P++M++S).length<=100000) :
  ∃d M',zG (XG G) TT 134 ⟨m.boxes.set id ((P++M++S).map rv),m.toks⟩ [.rsl id 0 (P++M++S).length 1,.int .i64 (P.length:Int),.int .i64 ((P.length+M.length:Nat):Int),.func 43 []]=some (d,⟨m.boxes.set id ((P++M'++S).map rv),m.toks⟩)/\M'.Perm M/\Asc yZ M':=by
 suffices hh:∃d m',zG (XG G) TT 134 ⟨m.boxes.set id ((P++M++S).map rv),m.toks⟩ [.rsl id 0 (P++M++S).length 1,.int .i64 (P.length:Int),.int .i64 ((P.length+M.length:Nat):Int),.func 43 []]=some (d,m')/\∃M',m'=⟨m.boxes.set id ((P++M'++S).map rv),m.toks⟩/\M'.Perm M/\Asc yZ M' by
  obtain⟨d,m',h1,M',rfl,h2⟩:=hh;exact⟨d,M',h1,h2⟩
 have z1:∀X:List D,(m.boxes.set id X)[id]?=some X:=λX=>List.getElem?_set_self hid
 have z2:∀X Y:List D,(m.boxes.set id X).set id Y=m.boxes.set id Y:=λX Y=>List.set_set ..
 have z3:=zHl
 refine zO T134 rfl ?_
 unfold Tryz.f134 xEt
 simp only[Option.getD_some]
 have w0:=yU P.length (by simp at hn;omega)
 have hml:((P++M++S).map rv).length=(P++M++S).length:=List.length_map ..
 have ta:∀P:Prop,(True/\P)=P:=λP=>propext ⟨λh=>h.2,λh=>⟨trivial,h⟩⟩
 simp +decide only[go_sem,ra]
 refine gw (an5 z1 z2 z3 w0 ta) ?_
 cases M with
 |nil=>
  refine lpC (T:=Unit) [0,1,2,3,8] (λ_=>[]) (λ_=>[]) (λ_=>⟨m.boxes.set id ((P++[]++S).map rv),m.toks⟩) (λ_=>True) (λ_=>0) () (by simp) ?_
  rintro _ _
  have l1:(((P.length+1:Nat):Int)<((P.length+0:Nat):Int))=False:=eq_false (by omega)
  refine gw (an6 z1 z2 z3 w0 ta l1) ?_
  simp +decide only[go_sem]
  exact⟨[],by simp,.refl _,List.Pairwise.nil⟩
 | cons x0 M0=>
  have e0:P++x0::M0++S=P++[x0]++M0++S:=by simp
  rw[e0]
  have hN:(P++[x0]++M0++S).length=P.length+(M0.length+1)+S.length:=by simp;omega
  rw[e0,hN] at hn
  rw[hN]
  generalize hNN:P.length+(M0.length+1)+S.length=N at *
  refine lpC (T:=List (List Val)×List (List Val)) [0,1,2,3,8] (λp=>[(8,.int .i64 ((P.length+p.1.length:Nat):Int))]) (λ_=>[]) (λp=>⟨m.boxes.set id ((P++p.1++p.2++S).map rv),m.toks⟩) (λp=>p.1.length+p.2.length=M0.length+1/\(p.1++p.2).Perm (x0::M0)/\Asc yZ p.1/\p.1≠[]) (λp=>p.2.length) ([x0],M0) (by exact⟨by simp;omega,.refl _,List.pairwise_singleton _ _,by simp⟩) ?_
  rintro ⟨T,U⟩ ⟨hTU,hperm,hasc,hTne⟩
  simp only at hTU hperm hasc hTne ⊢
  cases U with
  |nil=>
   have hT:T.length=M0.length+1:=by simpa using hTU
   have l1:(((P.length+T.length:Nat):Int)<((P.length+(M0.length+1):Nat):Int))=False:=eq_false (by omega)
   refine gw (an6 z1 z2 z3 w0 ta l1) ?_
   simp +decide only[go_sem]
   exact⟨T,by simp,by simpa using hperm,hasc⟩
  | cons x U=>
   have hT:T.length+(U.length+1)=M0.length+1:=by simpa using hTU
   have l1:(((P.length+T.length:Nat):Int)<((P.length+(M0.length+1):Nat):Int))=True:=eq_true (by omega)
   have hxl:x.length<=100000:=hl x (by
    have:x∈x0::M0:=hperm.subset (by simp)
    simp only[List.mem_append];exact .inl (.inr this))
   have e1:P++T++x::U++S=P++T++x::([]++U++S):=by simp
   rw[e1]
   refine gw (an6 z1 z2 z3 w0 ta l1) ?_
   refine lpC (T:=List (List Val)×List (List Val)) [0,1,2,3,8,9] (λp=>[(9,.int .i64 ((P.length+p.1.length:Nat):Int))]) (λ_=>[]) (λp=>⟨m.boxes.set id ((P++p.1++x::(p.2++U++S)).map rv),m.toks⟩) (λp=>p.1++p.2=T/\∀y∈p.2,yZ x y<0) (λp=>p.1.length) (T,[]) (by exact⟨by simp,λy h=>by simp at h⟩) ?_
   rintro ⟨A,B⟩ ⟨hAB,hlt⟩
   simp only at hAB hlt ⊢
   have hTl:T.length=A.length+B.length:=by rw[<-hAB,List.length_append]
   have hLl:((P++A++x::(B++U++S)).map rv).length=N:=by rw[List.length_map];simp;omega
   have hend:(∀z∈A,yZ z x<=0)->(A++x::B++U).Perm (x0::M0)/\Asc yZ (A++x::B):=λhz=>by
    subst hAB
    refine⟨List.Perm.trans ?_ hperm,?_⟩
    ·have:(A++x::B).Perm (A++B++[x]):=by
      rw[List.append_assoc]
      exact List.Perm.append_left A (by simpa using(List.perm_append_comm (l₁:=[x]) (l₂:=B)))
     have:=this.append_right U
     simpa using this
    ·refine List.pairwise_append.2 ⟨(List.pairwise_append.1 hasc).1,List.pairwise_cons.2 ⟨λy hy=>Int.le_of_lt (hlt y hy),(List.pairwise_append.1 hasc).2.1⟩,λz hzA w hw=>?_⟩
     rcases List.mem_cons.1 hw with rfl|hw
     ·exact hz z hzA
     ·exact(List.pairwise_append.1 hasc).2.2 z hzA w hw
   have hmem:P++A++x::(B++U++S)=P++(A++x::B)++U++S:=by simp
   have wout:=yU (P.length+T.length) (by omega)
   rcases List.eq_nil_or_concat A with rfl|⟨A0,y,hA0⟩
   ·have c1:((P.length:Int)<((P.length+0:Nat):Int))=False:=eq_false (by omega)
    obtain⟨q1,q2⟩:=hend (λz hz=>by simp at hz)
    refine gw (an7 z1 z2 z3 w0 ta c1 wout) ?_
    have ee1:P++x::(B++U++S)=P++(x::B)++U++S:=by simp
    have ee2:P.length+T.length+1=P.length+(x::B).length:=by simp at hTl ⊢;omega
    rw[ee1,ee2]
    exact⟨(x::B,U),by simp +decide only[go_sem]<;>rfl,⟨by simp at hTl ⊢;omega,by simpa using q1,by simpa using q2,by simp⟩,by simp⟩
   ·rw [List.concat_eq_append] at hA0
    subst hA0
    have hyl:y.length<=100000:=hl y (by
     have h1:y∈T:=by rw[<-hAB];simp
     have:y∈x0::M0:=hperm.subset (List.mem_append_left _ h1)
     simp only[List.mem_append];exact .inl (.inr this))
    have hTl':T.length=A0.length+1+B.length:=by simpa using hTl
    have c1:((P.length:Int)<((P.length+(A0.length+1):Nat):Int))=True:=eq_true (by omega)
    have gx:((P++(A0++[y])++x::(B++U++S)).map rv)[P.length+(A0.length+1)]?=some (.slice none 3 (x.map vD)):=by
     rw[List.getElem?_map,show P.length+(A0.length+1)=(P++(A0++[y])).length by simp,zUa];rfl
    have gy:((P++(A0++[y])++x::(B++U++S)).map rv)[P.length+A0.length]?=some (.slice none 3 (y.map vD)):=by
     rw[List.getElem?_map,show P++(A0++[y])++x::(B++U++S)=(P++A0)++y::(x::(B++U++S)) by simp,show P.length+A0.length=(P++A0).length by simp,zUa];rfl
    have w1:IntKind.i64.wrap (((P.length+(A0.length+1):Nat):Int)-1)=((P.length+A0.length:Nat):Int):=by rw[yD _ (by omega)];omega
    have l2:(((P.length+(A0.length+1):Nat):Int)<(N:Int))=True:=eq_true (by omega)
    have l3:(((P.length+A0.length:Nat):Int)<(N:Int))=True:=eq_true (by omega)
    have hcm:=yIg (G:=G) m x y hxl hyl
    have hsx:zC noR (x.map vD)=x.map vD:=zL vD (λv=>yW v) _
    have hsy:zC noR (y.map vD)=y.map vD:=zL vD (λv=>yW v) _
    have hal:(A0++[y]).length=A0.length+1:=by simp
    cases cc:(decide (yZ x y<0))
    ·have hyx:yZ y x<=0:=uK.le_of_not_lt vW (of_decide_eq_false cc)
     obtain⟨q1,q2⟩:=hend (λz hz=>by
      rcases List.mem_append.1 hz with hz|hz
      ·have hA:Asc yZ (A0++[y]):=by rw[<-hAB] at hasc;exact(List.pairwise_append.1 hasc).1
       exact uS ((List.pairwise_append.1 hA).2.2 z hz y (by simp)) hyx
      ·simp at hz;subst hz;exact hyx)
     refine gw (an9 z1 z2 z3 w0 ta c1 gx gy (an9 w1 l2 l3 hcm hsx hsy hal cc wout)) ?_
     have ee2:P.length+T.length+1=P.length+(A0++[y]++x::B).length:=by simp;omega
     rw[hmem,ee2]
     exact⟨(A0++[y]++x::B,U),by simp +decide only[go_sem]<;>rfl,⟨by simp;omega,q1,q2,by simp⟩,by simp⟩
    ·have st1:(((P++(A0++[y])++x::(B++U++S)).map rv).set (P.length+(A0.length+1)) (.slice none 3 (y.map vD))).set (P.length+A0.length) (.slice none 3 (x.map vD))=(P++A0++x::(y::B++U++S)).map rv:=by
      rw[show (D.slice none 3 (y.map vD))=rv y from rfl,show (D.slice none 3 (x.map vD))=rv x from rfl,<-List.map_set,<-List.map_set]
      congr 1
      rw[show P.length+(A0.length+1)=(P++(A0++[y])).length by simp,zTs,show P++(A0++[y])++y::(B++U++S)=(P++A0)++y::(y::(B++U++S)) by simp,show P.length+A0.length=(P++A0).length by simp,zTs]
      simp
     have l4:(P.length+(A0.length+1)+1<=N)=True:=eq_true (by omega)
     have l5:(P.length+A0.length+1<=N)=True:=eq_true (by omega)
     have so1:wB (((P++(A0++[y])++x::(B++U++S)).map rv).set (P.length+(A0.length+1)) (.slice none 3 (y.map vD)))=false:=by
      rw[show (D.slice none 3 (y.map vD))=rv y from rfl,<-List.map_set];exact zHl _
     have so2:(((P++(A0++[y])++x::(B++U++S)).map rv).set (P.length+(A0.length+1)) (.slice none 3 (y.map vD))).length=N:=by rw[List.length_set];exact hLl
     refine gw (an9 z1 z2 z3 w0 ta c1 gx gy (an9 w1 l2 l3 hcm hsx hsy hal cc (an6 st1 hLl l4 l5 so1 so2))) ?_
     exact⟨(A0,y::B),by simp +decide only[go_sem]<;>rfl,⟨by rw[<-hAB];simp,λz hz=>by
      rcases List.mem_cons.1 hz with rfl|hz
      ·exact of_decide_eq_true cc
      ·exact hlt z hz⟩,by simp⟩
end Go.Eng
