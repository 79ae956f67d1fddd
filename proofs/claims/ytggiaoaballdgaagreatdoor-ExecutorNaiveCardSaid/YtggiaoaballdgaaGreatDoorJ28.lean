/- A part of the proof: see the last text. -/
import Derived.Test.YtggiaoaballdgaaGreatDoorJ27
import Derived.Test.YtggiaoaballdgaaGreatDoorJ11
set_option linter.unusedSimpArgs false
set_option linter.unusedVariables false
namespace Go.Eng
open Go Go.Proofs
open Nat renaming reduceAdd → ra, reduceMul → rb, reduceSub → rc
set_option maxRecDepth 20000
set_option maxHeartbeats 32000000
attribute [local irreducible] wpI xU
variable {G:Nat->Option (List D)}
structure zQp (st:D) (data:List (List (Sl Val))):Prop where
 at_:∃(x:D) (tabs:List D),st=.ref [x,wW 1 tabs] 0/\tabs.length=data.length/\∀(i:Nat) (rs:List (Sl Val)),data[i]?=some rs->∃(a c b:Int) (y:D),tabs[i]?=some (zBf a rs c b y)/\∀g,zF g y=y
 strip:∀g,zF g st=st
theorem zWu (m:Mem) (st:D) (data:List (List (Sl Val))) (h:zQp st data) (hl:data.length<=1000) (i:Nat) (rs:List (Sl Val)) (hr:data[i]?=some rs) :
  ∃(a c b:Int) (y:D),zG (XG G) TT 39 m [st,.int .i64 (i:Int)]=some (zBf a rs c b y,m)/\∀g,zF g y=y:=by
 obtain⟨x,tabs,rfl,hlen,hat⟩:=h.at_
 obtain⟨a,c,b,y,ht,hy⟩:=hat i rs hr
 refine⟨a,c,b,y,?_,hy⟩
 have hi:=(List.getElem?_eq_some_iff.1 ht).1
 have hln:=zKz
 have hix:=zFy
 have l1:((i:Int)<0)=False:=eq_false (by omega)
 have l2:((tabs.length:Int)<=(i:Int))=False:=eq_false (by omega)
 have hce:(zBf a rs c b y).cells=[zBf a rs c b y]:=rfl
 have hok:(zBf a rs c b y).okC=true:=rfl
 generalize zBf a rs c b y=t at *
 refine yB T39 rfl ?_
 unfold Tryz.f39 F39
 simp only[Option.getD_some]
 simp +decide only[go_sem,ra]
 refine gw (an7 ht hln hix l1 l2 hce hok) ?_
 simp +decide only[go_sem]
 try exact⟨rfl,trivial⟩
def zYt (st:D) (b:Bnd) (f:D):D:=.agg (st::((yL b).cells++[f]))
def zMu :List Nat->Nat->List D
 |[],_=>[]
 |w::r,n=>.int .i64 (n:Int)::zMu r (n+w)
def zMk (data:List (List (Sl Val))) (l:List I64):List Nat:=l.map λx=>match data[x.1.toNat]? with|some (r::_)=>r.items.length|_=>0
theorem yDw :∀(W:List Nat) (n w:Nat),zMu (W++[w]) n=zMu W n++[.int .i64 ((n+W.sum:Nat):Int)]
 |[],n,w=>by simp[zMu]
 |a::r,n,w=>by
  show _::zMu (r++[w]) (n+a)=_
  rw[yDw r (n+a) w]
  simp[zMu,Nat.add_assoc]
theorem yDv :∀(W:List Nat) (n:Nat),(zMu W n).length=W.length
 |[],_=>rfl
 |a::r,n=>by show (zMu r _).length+1=_;rw[yDv r];rfl
theorem yIj {data:List (List (Sl Val))} {l:List I64} {k:Nat} {x:I64} (h:l[k]?=some x):zMk data (l.take (k+1))=zMk data (l.take k)++zMk data [x]:=by
 rw[List.take_add_one,h]
 simp[zMk]
def yMw (data:List (List (Sl Val))) (l:List I64):Prop:=∀x∈l,∃i:Nat,x.1=(i:Int)/\i<data.length
def yBx (data:List (List (Sl Val))) (l:List I64):Prop:=∀x∈l,∀rs,data[x.1.toNat]?=some rs->rs≠[]
theorem zKp (g:Nat->Nat->Nat->Nat->D):∀(W:List Nat) (n:Nat),zC g (zMu W n)=zMu W n
 |[],_=>rfl
 |w::r,n=>by
  show D.int .i64 (n:Int)::zC g (zMu r (n+w))=_
  rw[zKp g r (n+w)];rfl
theorem zTo {data:List (List (Sl Val))} (hrs:∀rs∈data,rs.length<=1000/\∀r∈rs,r.items≠[]/\r.items.length<=1000):∀l:List I64,(zMk data l).sum<=1000*l.length
 |[]=>by simp[zMk]
 | x::r=>by
  have ih:=zTo hrs r
  have h1:(match data[x.1.toNat]? with|some (r::_)=>r.items.length|_=>0)<=1000:=by
   split
   ·rename_i r' t he
    exact((hrs _ (List.mem_of_getElem? he)).2 r' (by simp)).2
   ·omega
  show ((match data[x.1.toNat]? with|some (r::_)=>r.items.length|_=>0)::zMk data r).sum<=_
  rw[List.sum_cons,List.length_cons]
  omega
theorem ySl (st:D) (data:List (List (Sl Val))) (b:Bnd) (h:zQp st data) (hd:data.length<=1000) (ht:yMw data b.tabs.items) (hl:b.tabs.items.length<=10) (hrs:∀rs∈data,rs.length<=1000/\∀r∈rs,r.items≠[]/\r.items.length<=1000) :
  ∃d,zA (XG G) TT 37 [st,yL b]=some d/\((yBx data b.tabs.items/\d=.tuple [zYt st b (wW 1 (zMu (zMk data b.tabs.items) 0)),.bool true])\/(¬yBx data b.tabs.items/\∃x,d=.tuple [x,.bool false]/\x.okC=true/\x.cells.length=28)):=by
 have hsb:=λg=>zAx (g:=g) b
 refine zS T37 rfl (by simp only[zH,zR,yF,h.strip,hsb]) ?_
 unfold Tryz.f37 F37
 simp only[Option.getD_some,yL]
 have hlt:=b.tabs.lt
 have hst:st.okC=true/\st.cells=[st]:=by obtain⟨x,tabs,rfl,_⟩:=h.at_;exact⟨rfl,rfl⟩
 obtain⟨hs1,hs2⟩:=hst
 simp +decide only[go_sem,ra]
 refine gw (an hs1 hs2) ?_
 refine lpC (T:=Nat×Nat×Mem) [0,4,6,7,17,18,19] (λp=>[(19,.int .i64 (p.1:Int)),(7,.int .i64 (((zMk data (b.tabs.items.take p.1)).sum:Nat):Int))]) (λp=>[(6,[st,.int .i64 5,.str [],.nil,.nil,.nil,.nil,.nil,.nil,.nil,sl 2 zAu b.src,.int .i64 b.w.a.1,.str b.w.s,.str b.w.t,.int .i64 b.w.b.1,.int .i64 b.w.c.1,.int .i64 b.w.d.1,.str b.w.u,sl 8 zM b.w.args,.nil,.nil,.int .i64 0,.str [],.int .i64 0,sl 1 I b.tabs,sl 5 vr b.vars,.nil,vdK 1 p.2.1 (zMu (zMk data (b.tabs.items.take p.1)) 0)])]) (λp=>p.2.2) (λp=>p.1<=b.tabs.items.length/\(p.1≠0->p.2.2.toks[p.2.1]?=some p.1)/\yBx data (b.tabs.items.take p.1)) (λp=>b.tabs.items.length-p.1) (0,0,⟨[],[]⟩) (by exact⟨Nat.zero_le _,λh=>absurd rfl h,λx h=>by simp at h⟩) ?_
 rintro ⟨k,tok,m⟩ ⟨hk,htk,hfull⟩
 simp only at hk htk hfull ⊢
 by_cases hkl:k<b.tabs.items.length
 ·obtain⟨l_x,x,g_x,w_x⟩:=elm (L:=b.tabs.items) (k:=k) (by assumption) (by omega)
  obtain⟨i,hxi,hi⟩:=ht x (List.mem_of_getElem? g_x)
  obtain⟨rs,hri⟩:∃rs,data[i]?=some rs:=⟨_,List.getElem?_eq_getElem hi⟩
  have hwl:(zMk data (b.tabs.items.take k)).length=k:=by simp[zMk];omega
  have hfl:(zMu (zMk data (b.tabs.items.take k)) 0).length=k:=by rw[yDv,hwl]
  have hws:zMk data (b.tabs.items.take (k+1))=zMk data (b.tabs.items.take k)++zMk data [x]:=yIj g_x
  generalize hW:zMk data (b.tabs.items.take k)=W at *
  obtain⟨tok',tk',ha,htk'⟩:=yEe 1 tok m.toks (zMu W 0) (.int .i64 ((W.sum:Nat):Int)) (λe=>by
   rw[hfl];exact htk (by intro e2;subst e2;apply e;exact List.eq_nil_of_length_eq_zero hfl))
  obtain⟨a1,c1,b1,y1,h39,hy1⟩:=zWu (G:=G) ⟨m.boxes++[[.int .i64 0]],tk'⟩ st data h hd i rs hri
  have h40:=yYe (G:=G) a1 rs c1 b1 y1 hy1
  have z1:=λm=>qW m 1 tok (zMu W 0)
  have z3:(k+1<=16777216)=True:=eq_true (by omega)
  have hts:zF noR (zBf a1 rs c1 b1 y1)=zBf a1 rs c1 b1 y1:=by rw[qL,hy1]
  have z4:(m.boxes++[[D.int .i64 0]]).set m.boxes.length [D.int .i64 0]=m.boxes++[[D.int .i64 0]]:=by simp
  have z5:(m.boxes++[[D.int .i64 0]])[m.boxes.length]?=some [D.int .i64 0]:=by simp
  refine gw (an9 hs1 hs2 l_x g_x w_x hxi ha z1 (an7 hfl z3 h39 h40 hts z4 z5)) ?_
  refine wpI_rf' (f:=123) (cap:=[.ref [.func 74 [.ref [zBf a1 rs c1 b1 y1] 0]] 0]) rfl (by decide) λR hR'=>?_
  have hR:R=.lrec _ [10] [.ptr m.boxes.length 0] [33,34] _ _ 0 0:=hR'
  clear hR'
  obtain⟨hrl,hrr⟩:=hrs rs (List.mem_of_getElem? hri)
  have hat:∀(A:List (List D)) (y:List D),(A++[y])[A.length]?=some y:=λA y=>by simp
  have hset:∀(A:List (List D)) (y z:List D),(A++[y]).set A.length z=A++[z]:=λA y z=>by simp
  have z6:∀y z:List D,(m.boxes++[y]++[z])[m.boxes.length]?=some y:=λy z=>by simp
  have z7:∀y z w:List D,(m.boxes++[y]++[z]).set m.boxes.length w=m.boxes++[w]++[z]:=λy z w=>by simp
  have hat2:∀x y z:List D,(m.boxes++[x]++[y])[(m.boxes++[z]).length]?=some y:=λx y z=>by simp
  have hset2:∀x y z w:List D,(m.boxes++[x]++[y]).set (m.boxes++[z]).length w=m.boxes++[x]++[w]:=λx y z w=>by simp
  obtain⟨d9,m9,h9,hPQ⟩:=yXv (G:=G) (m.boxes++[[D.int .i64 0]]).length (λk' m'=>k'=0/\∃tk2,m'=⟨m.boxes++[[.int .i64 0]]++[[R]],tk'++tk2⟩) (λm'=>∃(r0:Sl Val) (rest:List (Sl Val)) (tk2:List Nat) (F:Fi) (A C:Code),rs=r0::rest/\m'=⟨m.boxes++[[.int .i64 (r0.items.length:Int)]]++[[.lrec F [10] [.ptr m.boxes.length 0] [33,34] A C 2 4]],tk'++tk2⟩) a1 rs c1 b1 y1 hrl (λr hr=>(hrr r hr).2) hy1 (λk' m' tk3 hP=>by
    obtain⟨rfl,tk2,rfl⟩:=hP
    exact⟨rfl,tk2++tk3,by simp[List.append_assoc]⟩) (λk' r t m' hr hP=>by
    obtain⟨rfl,tk2,rfl⟩:=hP
    right
    subst hR
    refine xLr (hat _ _) rfl ?_
    simp only[go_sem,List.zip_cons_cons,List.zip_nil_right,List.cons_append,List.nil_append]
    refine gw (an5 hs1 hs2 l_x g_x w_x) ?_
    refine zUk (hat _ _) ?_
    simp only[go_sem,hset]
    have hml:(r.items.map vD).length=r.items.length:=List.length_map ..
    refine gw (an8 hs1 hs2 l_x g_x w_x z6 z7 hml) ?_
    refine yQd (k:=2) (hat2 _ _ _) ?_
    simp only[go_sem,hset2]
    refine⟨trivial,r,rs.tail,tk2,_,_,_,?_,rfl⟩
    cases rs with
    |nil=>simp at hr
    |cons a l=>simp at hr;subst hr;rfl) ⟨m.boxes++[[.int .i64 0]]++[[R]],tk'⟩ ⟨rfl,[],by simp⟩
  refine⟨d9,m9,h9,?_⟩
  rcases hPQ with⟨he,tk2,rfl⟩|⟨r0,rest,tk2,F,A,C,hrc,rfl⟩
  ·subst hR
   refine zUn (hat _ _) ?_
   simp only[go_sem,hset]
   have z8:((0:Int)==0)=true:=rfl
   refine gw (an7 hs1 hs2 l_x g_x w_x z6 z8) ?_
   simp +decide only[go_sem,ra]
   have hrs0:rs=[]:=List.eq_nil_of_length_eq_zero he
   refine .inr ⟨λhfb=>hfb x (List.mem_of_getElem? g_x) rs ?_ hrs0,_,rfl,rfl,rfl⟩
   rw[hxi];exact hri
  ·refine ySs (k:=2) (hat2 _ _ _) ?_
   simp only[go_sem,hset2]
   have hr0:=hrr r0 (by rw[hrc];simp)
   have hp0:0<r0.items.length:=List.length_pos_iff.2 hr0.1
   have z8:((r0.items.length:Int)==0)=false:=by rw[beq_eq_false_iff_ne];omega
   have hwx:zMk data [x]=[r0.items.length]:=by
    simp only[zMk,List.map_cons,List.map_nil]
    rw[show x.1.toNat=i by omega,hri,hrc]
   have hsum:(W++[r0.items.length]).sum=W.sum+r0.items.length:=by simp
   have hWb:W.sum<=1000*k:=by
    rw[<-hW]
    exact Nat.le_trans (zTo hrs _) (Nat.mul_le_mul_left _ (by simp;omega))
   have z9:IntKind.i64.wrap (((W.sum:Nat):Int)+(r0.items.length:Int))=((W.sum+r0.items.length:Nat):Int):=by rw[yD _ (by omega)];omega
   refine gw (an8 hs1 hs2 l_x g_x w_x z6 z8 z9) ?_
   refine⟨(k+1,tok',⟨m.boxes++[[.int .i64 (r0.items.length:Int)]]++[[zOi]],tk'++tk2⟩),?_,⟨hkl,λ_=>?_,?_⟩,by simp only;omega⟩
   ·simp only[hws,hwx,hsum,yDw,Nat.zero_add]
    simp +decide only[go_sem]
   ·show (tk'++tk2)[tok']?=some (k+1)
    rw[List.getElem?_append_left (List.getElem?_eq_some_iff.1 htk').1,htk',hfl]
   ·intro z hz rs' hrs'
    have hz:z∈b.tabs.items.take (k+1):=hz
    rw[List.take_add_one,g_x,List.mem_append] at hz
    rcases hz with hz|hz
    ·exact hfull z hz rs' hrs'
    ·simp at hz;subst hz
     rw[show z.1.toNat=i by omega,hri] at hrs'
     cases hrs'
     rw[hrc];simp
 ·have l_x:((k:Int)<((b.tabs.items).length:Int))=False:=by simp;omega
  refine gw (an3 hs1 hs2 l_x) ?_
  simp +decide only[go_sem,ra]
  obtain rfl:k=b.tabs.items.length:=by omega
  rw[List.take_length] at hfull ⊢
  refine .inl ⟨hfull,?_⟩
  rw[h.strip,zKo,zKp]
  rfl
theorem yLk (m:Mem) (c:Sl (Val)) (hl:c.items.length<=16777216):∃(d:D) (bx:List (List D)),zG (XG G) TT 100089 m [sl 3 vD c]=some (d,⟨m.boxes++bx,m.toks⟩)/\((c.items=[]/\bx=[]/\(d=.nil\/d=.slice (some 0) 3 []))\/(c.items≠[]/\bx=[(zV (c.items.map vD))]/\d=.rsl m.boxes.length 0 c.items.length 3)):=by
 suffices h:∃d m',zG (XG G) TT 100089 m [sl 3 vD c]=some (d,m')/\∃(bx:List (List D)),m'=⟨m.boxes++bx,m.toks⟩/\((c.items=[]/\bx=[]/\(d=.nil\/d=.slice (some 0) 3 []))\/(c.items≠[]/\bx=[(zV (c.items.map vD))]/\d=.rsl m.boxes.length 0 c.items.length 3)) by
  obtain⟨d,m',h1,bx,rfl,h2⟩:=h;exact⟨d,bx,h1,h2⟩
 refine zO T100089 rfl ?_
 unfold Tryz.f89 zUs
 simp only[Option.getD_some]
 obtain⟨o,ho⟩:=c
 cases o with
 |none=>
  simp only[sl]
  simp +decide only[go_sem]
  refine gw trivial ?_
  simp +decide only[go_sem]
  exact⟨[],by simp,.inl ⟨by trivial,by trivial,.inl (by trivial)⟩⟩
 | some l=>
  have hl:l.length<=16777216:=hl
  show wpI _ _ _ _ _ _
  simp only[sl,Sl.items,Option.getD_some]
  simp +decide only[go_sem]
  cases l with
  |nil=>
   simp only[List.map_nil]
   refine gw trivial ?_
   simp +decide only[go_sem]
   exact⟨[],by simp,.inl ⟨by trivial,by trivial,.inr (by trivial)⟩⟩
  |cons a r=>
   have hl1:((a::r).map vD).length=(a::r).length:=List.length_map ..
   have ha:vX 3 m (.slice (some 0) 3 []) [] ((a::r).map vD)=some (.rsl m.boxes.length 0 ((a::r).map vD).length 3,⟨m.boxes++[zV ((a::r).map vD)],m.toks⟩):=rfl
   have hne:a::r≠[]:=by simp
   rw[hl1] at ha
   generalize hL:(a::r).map vD=L at *
   generalize a::r=l at *
   have hl2:(l.length<=16777216)=True:=eq_true hl
   refine gw (an3 hl1 ha hl2) ?_
   simp +decide only[go_sem]
   exact⟨_,rfl,.inr ⟨hne,rfl,by trivial⟩⟩
def zQe (c:List Val) (off:Nat) (r:List Val):List Val:=c.take off++r++c.drop (off+r.length)
theorem zXe (c:List Val) (off:Nat) (r:List Val) (h:off+r.length<=c.length):(zQe c off r).length=c.length:=by
 unfold zQe;simp;omega
theorem zRd :∀(L cs:List D) (off:Nat),off+L.length<=cs.length->setRow cs off L=cs.take off++L++cs.drop (off+L.length)
 |[],cs,off,_=>by simp[setRow]
 | d::r,cs,off,h=>by
  simp only[List.length_cons] at h
  rw[setRow,zRd r _ _ (by rw[List.length_set];omega)]
  rw[List.take_set,List.drop_set_of_lt (by omega)]
  have h1:((cs.take (off+1)).set off d)=cs.take off++[d]:=by
   have h2:cs.take (off+1)=cs.take off++[cs[off]'(by omega)]:=by rw[List.take_add_one,List.getElem?_eq_getElem (by omega:off<cs.length)];rfl
   have h3:∀(A:List D) (y:D),A.length=off->(A++[y]).set off d=A++[d]:=λA y h=>by subst h;simp
   rw[h2,h3 _ _ (by rw[List.length_take];omega)]
  rw[h1]
  simp[Nat.add_assoc,Nat.add_comm 1]
theorem yCk (v:Val):(vD v).cells.length=3:=rfl
theorem zBb (l:List Val):(zV (l.map vD)).length=l.length*3:=by
 rw[yN (k:=3),List.length_map]
 intro d hd
 obtain⟨v,_,rfl⟩:=List.mem_map.1 hd
 exact yCk v
theorem yAk (l:List Val) (n:Nat) (h:n<=l.length):(zV (l.map vD)).take (n*3)=zV ((l.take n).map vD):=by
 conv=>lhs;rw[<-List.take_append_drop n l,List.map_append,xD]
 have h1:(zV ((l.take n).map vD)).length=n*3:=by rw[zBb,List.length_take];omega
 rw[<-h1,List.take_left]
theorem yAl (l:List Val) (n:Nat) (h:n<=l.length):(zV (l.map vD)).drop (n*3)=zV ((l.drop n).map vD):=by
 conv=>lhs;rw[<-List.take_append_drop n l,List.map_append,xD]
 have h1:(zV ((l.take n).map vD)).length=n*3:=by rw[zBb,List.length_take];omega
 rw[<-h1,List.drop_left]
theorem yJq (c r:List Val) (off:Nat) (h:off+r.length<=c.length):setRow (zV (c.map vD)) (off*3) (zV (r.map vD))=zV ((zQe c off r).map vD):=by
 rw[zRd _ _ _ (by rw[zBb,zBb];omega),zBb,yAk _ _ (by omega),<-Nat.add_mul,yAl _ _ h]
 unfold zQe
 rw[List.map_append,List.map_append,xD,xD]
def slV (l:List Val) (h:l.length<4611686018427387904):Sl Val:=⟨some l,h⟩
theorem yKy (off n:Nat) (c r:List Val) (hne:r≠[]) (h:off+r.length<=c.length) (hn:n=c.length-off):yCa Tryz.prog ⟨[zV (c.map vD)],[]⟩ 72 (.rsl 0 (off*3) n 3) (.slice none 3 (r.map vD))=some (.int .i64 ((min r.length n:Nat):Int),⟨[zV ((zQe c off r).map vD)],[]⟩):=by
 have h1:zN Tryz.prog 72=some 3:=yIt
 have ho:wB (zV (c.map vD))=false:=by
  cases c with
  |nil=>rfl
  |cons a l=>rfl
 have hb:uN ⟨[zV (c.map vD)],[]⟩ 0=some (zV (c.map vD)):=wQ rfl ho
 have ht:(r.map vD).take n=r.map vD:=List.take_of_length_le (by rw[List.length_map];omega)
 unfold yCa
 rw[h1]
 simp only[yUu,zY,decide_true,cond_true,ht]
 cases r with
 |nil=>exact absurd rfl hne
 | cons a l=>
  have e1:((a::l).map vD).length=(a::l).length:=List.length_map ..
  have h2:(decide (3=3)&&(decide (((a::l).map vD).length<=n)&&decide (off*3+n*3<=(zV (c.map vD)).length)))=true:=by
   rw[e1,zBb]
   simp only[List.length_cons] at h ⊢
   simp;omega
  have hf:yBy ⟨[zV (c.map vD)],[]⟩ 3 (.rsl 0 (off*3) n 3) ((a::l).map vD)=some ⟨[zV ((zQe c off (a::l)).map vD)],[]⟩:=by
   show (match uN ⟨[zV (c.map vD)],[]⟩ 0 with
    |some cs=>bif decide (3=3)&&(decide (((a::l).map vD).length<=n)&&decide (off*3+n*3<=cs.length)) then some (Mem.mk ([zV (c.map vD)].set 0 (setRow cs (off*3) (zV ((a::l).map vD)))) []) else none
    |none=>none)=_
   rw[hb]
   show (bif decide (3=3)&&(decide (((a::l).map vD).length<=n)&&decide (off*3+n*3<=(zV (c.map vD)).length)) then some (Mem.mk ([zV (c.map vD)].set 0 (setRow (zV (c.map vD)) (off*3) (zV ((a::l).map vD)))) []) else none)=_
   rw[h2,yJq c (a::l) off h]
   rfl
  rw[hf]
  simp only[e1]
theorem zNm :∀l:List Val,zCi (zV (l.map vD))=true
 |[]=>rfl
 |v::r=>by
  have:=zNm r
  show zCi ((vD v).cells++zV (r.map vD))=true
  show zCi (D.int .i64 v.k::D.int .i64 v.n::D.str v.s::zV (r.map vD))=true
  exact this
theorem yYh (m:Mem) (st cD:D) (b:Bnd) (F:List D) (c r:List Val) (source off:Nat) (id:Int) (t:Nat) (hst:∀g,zF g st=st) (hF0:∀g,zC g F=F) (hF:F[source]?=some (.int .i64 (off:Int))) (hc:zF (vM m m.boxes.length) cD=.slice none 3 (c.map vD)) (hcne:c≠[]) (hrne:r≠[]) (h:off+r.length<=c.length) (hcl:c.length<=100000) :
  zG (XG G) TT 200072 m [zYt st b (wW 1 F),cD,.int .i64 (source:Int),.int .i64 id,.slice (some t) 3 (r.map vD)]=some (.agg [.int .i64 id,.slice none 3 ((zQe c off r).map vD)],m):=by
 have hl:yMo m [zYt st b (wW 1 F),cD,.int .i64 (source:Int),.int .i64 id,.slice (some t) 3 (r.map vD)]=[zYt st b (wW 1 F),.slice none 3 (c.map vD),.int .i64 (source:Int),.int .i64 id,.slice none 3 (r.map vD)]:=by
  unfold yMo
  simp only[zR,yF,hc,yY]
  rw[zL vD (λv=>yW v)]
  have:zF (vM m m.boxes.length) (zYt st b (wW 1 F))=zYt st b (wW 1 F):=by
   unfold zYt
   rw[zDv,zR,hst,vJ,zR,yF,zDt _ _ _ (hF0 _)]
   have hb:=zAx (g:=vM m m.boxes.length) b
   have hb2:zC (vM m m.boxes.length) (yL b).cells=(yL b).cells:=by
    have:yL b=.agg (yL b).cells:=rfl
    rw[this,zDv] at hb
    exact D.agg.inj hb
   rw[hb2]
  rw[this]
  rfl
 refine yGk T200072 hl rfl ?_
 unfold Tryz.f72 zUp
 simp only[Option.getD_some,zYt,yL]
 obtain⟨d,bx,hcc,hd⟩:=yLk (G:=G) ⟨[],[]⟩ (slV c (by omega)) (by show c.length<=_;omega)
 rcases hd with⟨e,_⟩|⟨_,rfl,rfl⟩
 ·exact absurd e hcne
 have hcc:zG (XG G) TT 100089 ⟨[],[]⟩ [.slice none 3 (c.map vD)]=some (.rsl 0 0 c.length 3,⟨[zV (c.map vD)],[]⟩):=hcc
 have hcp:=yKy off (c.length-off) c r hrne h rfl
 have hix:=zFy
 have hrp:0<r.length:=List.length_pos_iff.2 hrne
 have s1:((off:Int)<=(c.length:Int))=True:=eq_true (by omega)
 have s2:((c.length:Int)<=(c.length:Int))=True:=eq_true (Int.le_refl _)
 have s3:((off:Int)=(c.length:Int))=False:=eq_false (by omega)
 simp +decide only[go_sem,ra]
 refine gw (an7 hcc hcp hix hF s1 s2 s3) ?_
 simp +decide only[go_sem,ra]
 have hpl:=zXe c off r h
 have ho:wB (zV ((zQe c off r).map vD))=false:=by
  cases hp:zQe c off r with
  |nil=>rfl
  |cons a l=>rfl
 have hbx:uN ⟨[zV ((zQe c off r).map vD)],[]⟩ 0=some (zV ((zQe c off r).map vD)):=wQ rfl ho
 refine⟨?_,?_⟩
 ·show (match (match uN ⟨[zV ((zQe c off r).map vD)],[]⟩ 0 with|some cs=>zCi cs|none=>false) with|true=>true|false=>false)=true
  rw[hbx]
  simp only[zNm]
 ·have:=zUc (k:=3) (f:=vD) (l:=zQe c off r) (n:=c.length) hbx hpl.symm yCk (λ_=>rfl) (λ_ _=>rfl)
  rw[show (1:Nat)=(Mem.mk [zV ((zQe c off r).map vD)] []).boxes.length from rfl,this]
end Go.Eng
