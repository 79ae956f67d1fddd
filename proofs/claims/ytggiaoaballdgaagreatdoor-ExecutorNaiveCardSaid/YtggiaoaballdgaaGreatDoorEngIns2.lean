/- Part of the engine that proves it: see the last text. -/
import Derived.Lib.Bytealg
import Derived.Test.YtggiaoaballdgaaGreatDoorEngIns
import Derived.Test.YtggiaoaballdgaaGreatDoorJ3
set_option linter.unusedSimpArgs false
set_option linter.unusedVariables false
namespace Go.Eng
open Go Go.Proofs Go.Lib
section
variable {X:Ctx} {B:Nat} {w:World} {S:Sh}
theorem qD {vs:Array Value} {t:TypeId} {fr:Nat×Nat} {b:Nat} (hh:w.heap[b]?=some (.cells vs t fr)) (ho:zEk vs fr) {j:Nat} (hj:j<vs.size):w.frozen? ⟨b,j,none⟩=false:=by
 have:=ho j hj
 obtain⟨lo,hi⟩:=fr
 simp only[World.frozen?,hh,Bool.and_eq_false_iff,decide_eq_false_iff_not]
 simp only at this
 omega
theorem xI (b o:Nat) {cur:Array Value} {t:TypeId} {fr:Nat×Nat} {vs:List Value} (hh:w.heap[b]?=some (.cells cur t fr)) (ho:zEk cur fr) (hl:o+vs.length<=cur.size) (h1:∀v∈vs,v.oneCell'=true) :
  w.setCells b o vs=w.setRow b (cur.toList.take o++vs++cur.toList.drop (o+vs.length)).toArray:=by
 have a:=xK (P:=Tryz.prog) b o t fr vs 0 cur w hh ho (by simpa using hl) h1
 have c:=run_storeCells_cells (P:=Tryz.prog) b o vs 0 w (λj hj=>by
  rw[cell_of_row w b _ cur t fr hh,Array.getElem?_eq_getElem (by omega)];rfl) (λj hj=>qD hh ho (by omega)) h1
 rw[a] at c
 simp only[Nat.add_zero] at c
 injection c with _ c
 exact c.symm
theorem zIh (w:World) (c:Array Value) (e:TypeId) (fr:Nat×Nat) (A:Array Value):(w.alloc (.cells c e fr)).setRow w.heap.size A=w.alloc (.cells A e fr):=by
 unfold World.setRow World.alloc
 congr 1
 apply Array.ext
 ·simp
 ·intro i h1 h2
  simp only[Array.getElem_modify,Array.getElem_push]
  by_cases e1:w.heap.size=i
  ·subst e1;simp
  ·have:i<w.heap.size:=by simp at h2;omega
   simp[e1,this]
def zGo (cs:List D) (i:Nat) (v:D):List D:=cs.take i++v::cs.drop i
theorem zXo {cs:List D} {i:Nat} {v:D} (hi:i<=cs.length):(zGo cs i v).length=cs.length+1:=by
 unfold zGo;simp;omega
theorem zXp {cs:List D} {L:List Value} {v:D} {x:Value} (hc:xN w S cs L) (hv:yE w S v x) (hvc:v.isCell=true) (i:Nat):xN w S (zGo cs i v) (L.take i++x::L.drop i):=by
 have h1:=zCv hc 0 i
 simp only[List.drop_zero] at h1
 have h2:=zCv hc i cs.length
 rw[List.take_of_length_le (by simp),List.take_of_length_le (by rw[List.length_drop,<-hc.len];omega)] at h2
 have h3:xN w S [v] [x]:=⟨⟨rfl,λj c u hc hu=>by
  cases j with
  |zero=>simp at hc hu;subst hc;subst hu;exact hv
  |succ j=>simp at hc⟩,λc hc=>by simp at hc;subst hc;exact hvc⟩
 exact xS h1 (xS h3 h2)
theorem zGy (R:yI X B w S) {w1:World} (hw:w1.heap=w.heap) (ho:w1.os=w.os) (ht:w1.tape=w.tape) (hp:w1.output=w.output) {id:Nat} {cs:List D} {L:List Value} {v:D} {x:Value} (hno:∀c,S.m.boxes[id]?=some c->wB c=false) (hc:xN w S cs L) (hv:yE w S v x) (hvc:v.isCell=true) {i:Nat} (hi:i<=cs.length)
  {A:Array Value} {e:TypeId} {cap:Nat} (hcap:cs.length+1<=cap/\cs.length+1<=140737488355328/\cap<=9223372036854775807) (hA:A.size=cap) (ht2:A.toList.take (cs.length+1)=L.take i++x::L.drop i) :
  ∃S',S'.m={ S.m with boxes:=S.m.boxes.set id []++[zGo cs i v] }/\yI X B (w1.alloc (.cells A e (0,0))) S'/\Ext w.heap.size w S (w1.alloc (.cells A e (0,0))) S'/\yE (w1.alloc (.cells A e (0,0))) S' (.rsl S.m.boxes.length 0 (cs.length+1) 1) (.slice (some ⟨w.heap.size,0,none⟩) (cs.length+1) cap):=by
 have ED:Ext w.heap.size w S w1 S:=Ext.ofHeap hw ho ht hp
 have RD:yI X B w1 S:=R.ofHeap hw ho ht hp
 have RK:=RD.kill id hno
 have EK:Ext w.heap.size w1 S w1 (S.killBox id):=Ext.kill id
 have hl:=zXo (v:=v) hi
 have hcc:xN w1 (S.killBox id) (zGo cs i v) (A.toList.take (zGo cs i v).length):=by
  rw[hl,ht2];exact((zXp hc hv hvc i).mono ED R.tidy).mono EK RD.tidy
 obtain⟨st1,hv1⟩:=zKh (N:=w.heap.size) RK e (show 0<1 by omega) hcap (xW A) (by rw[hl,hA];exact hcap.1) (by rw[hA];omega) hcc
 rw[show (S.killBox id).m.boxes.length=S.m.boxes.length by simp[Sh.killBox]] at hv1
 have e0:w1.heap.size=w.heap.size:=by rw[hw]
 rw[e0] at st1 hv1
 exact⟨_,by simp[Sh.addBox,Sh.killBox],st1.rel,ED.trans R.tidy (EK.trans RD.tidy st1.ext),hv1⟩
theorem zIy (R:yI X B w S) {w1:World} (hw:w1.heap=w.heap) (ho:w1.os=w.os) (ht:w1.tape=w.tape) (hp:w1.output=w.output) {id b:Nat} {cs:List D} {v:D} {x:Value} (hbb:S.bb[id]?=some b) (hcs:uN S.m id=some cs) (hne:cs≠[]) {vs:Array Value} {t:TypeId} {fr:Nat×Nat} (hh:w.heap[b]?=some (.cells vs t fr)) (hop:zEk vs fr) (hc:xN w S cs (vs.toList.take cs.length)) (hv:yE w S v x) (hvc:v.isCell=true) {i:Nat} (hi:i<=cs.length)
  {A:Array Value} {cap:Nat} (hcap:cs.length+1<=cap/\cs.length+1<=140737488355328/\cap<=9223372036854775807) (hA:A.size=vs.size) (hfit:cap<=vs.size) (ht2:A.toList.take (cs.length+1)=(vs.toList.take cs.length).take i++x::(vs.toList.take cs.length).drop i) :
  ∃S',S'.m={ S.m with boxes:=S.m.boxes.set id []++[zGo cs i v] }/\yI X B (w1.setRow b A) S'/\Ext w.heap.size w S (w1.setRow b A) S'/\yE (w1.setRow b A) S' (.rsl S.m.boxes.length 0 (cs.length+1) 1) (.slice (some ⟨b,0,none⟩) (cs.length+1) cap):=by
 obtain⟨hcs',hno⟩:=yC hcs
 have ED:Ext w.heap.size w S w1 S:=Ext.ofHeap hw ho ht hp
 have RD:yI X B w1 S:=R.ofHeap hw ho ht hp
 have RK:=RD.kill id (λc h=>by rw[hcs'] at h;cases h;exact hno)
 have EK:Ext w.heap.size w1 S w1 (S.killBox id):=Ext.kill id
 have hl:=zXo (v:=v) hi
 have hh1:w1.heap[b]?=some (.cells vs t fr):=by rw[hw];exact hh
 have hdead:∀(i:Nat) (c:List D),(S.killBox id).bb[i]?=some b->(S.killBox id).m.boxes[i]?=some c->c=[]:=λi c h1 h2=>by
  rcases zFl h2 with⟨_,e,_⟩|⟨e,h2⟩
  ·exact e
  ·by_cases hc:c=[]
   ·exact hc
   ·exact absurd (R.bbInj i id b c cs h1 hbb h2 hcs' hc hne) e
 have hcc:xN w1 (S.killBox id) (zGo cs i v) (A.toList.take (zGo cs i v).length):=by
  rw[hl,ht2];exact((zXp hc hv hvc i).mono ED R.tidy).mono EK RD.tidy
 have hbm:b∈(S.killBox id).bb:=List.mem_of_getElem? hbb
 have R':=RK.alias hbm hdead hh1 hA (λj hj=>hop j (by rw[hA] at hj;exact hj)) (by rw[hl,hA];omega) hcc
 have E':=EK.trans RD.tidy (Ext.alias (N:=w.heap.size) RK hbm A (zGo cs i v) hh1 hA)
 refine⟨_,by simp[Sh.addBox,Sh.killBox],R',ED.trans R.tidy E',?_⟩
 refine .rsl _ 0 _ 1 b cap (by omega) hcap ?_ ⟨t,vs.size,?_,by omega⟩
 ·rw[show S.m.boxes.length=(S.killBox id).m.boxes.length by simp[Sh.killBox],<-RK.bbLen];simp[Sh.addBox]
 ·unfold World.shape?;rw[setRow_heap w1 b vs _ _ _ hh1];simp only[hA]
def yBf (m:Mem) (s:D) (i:Nat) (v:D):Option (D×Mem):=match s with
 |.nil=>(match i with
  |0=>some (.rsl m.boxes.length 0 1 1,{ m with boxes:=m.boxes++[[v]] })
  |_+1=>none)
 | .rsl id off len k=>(match uN m id with
  |some cs=>(match decide (off=0)&&(decide (k=1)&&(decide (cs.length=len)&&(decide (0<len)&&(decide (i<=len)&&decide (len<=1000))))) with
   |true=>some (.rsl m.boxes.length 0 (len+1) 1,{ m with boxes:=m.boxes.set id []++[zGo cs i v] })
   |false=>none)
  |none=>none)
 |_=>none
theorem zBr {vs:Array Value} {t:TypeId} {b:Nat} (hh:w.heap[b]?=some (.cells vs t (0,0))) (j:Nat):w.frozen? ⟨b,j,none⟩=false:=by
 simp[World.frozen?,hh]
theorem zBp {vs:Array Value} {t:TypeId} {fr:Nat×Nat} {b:Nat} (hh:w.heap[b]?=some (.cells vs t fr)):w.shape? b=some (t,vs.size):=by
 simp[World.shape?,hh]
theorem yDr {vs:List Value} {n i:Nat} {x:Value} (hi:i<=n) (hn:n+1<=vs.length) :
  ((vs.take (i+1)++(vs.take n).drop i++vs.drop (i+1+((vs.take n).drop i).length)).take i++[x]++(vs.take (i+1)++(vs.take n).drop i++vs.drop (i+1+((vs.take n).drop i).length)).drop (i+1)).take (n+1)=(vs.take n).take i++x::(vs.take n).drop i:=by
 have e1:((vs.take n).drop i).length=n-i:=by simp;omega
 have e2:(vs.take (i+1)++(vs.take n).drop i++vs.drop (i+1+((vs.take n).drop i).length)).take i=vs.take i:=by
  rw[List.append_assoc,List.take_append_of_le_length (by simp;omega),List.take_take,Nat.min_eq_left (by omega)]
 have e3:(vs.take (i+1)++(vs.take n).drop i++vs.drop (i+1+((vs.take n).drop i).length)).drop (i+1)=(vs.take n).drop i++vs.drop (i+1+((vs.take n).drop i).length):=by
  rw[List.append_assoc,List.drop_append_of_le_length (by simp;omega),List.drop_of_length_le (by simp;omega),List.nil_append]
 rw[e2,e3,List.take_take,Nat.min_eq_left hi]
 have e4:(vs.take i++[x]).length=i+1:=by simp;omega
 have e5:((vs.take n).drop i++vs.drop (i+1+((vs.take n).drop i).length)).take (n+1-(i+1))=(vs.take n).drop i:=List.take_left' (by rw[e1];omega)
 rw[List.take_append,e4,List.take_of_length_le (by rw[e4];omega),e5]
 simp
end
section
variable {X:Ctx}
theorem yHz (n:Nat):(Builtin.zeroCells (Value.int .i64 0).cells n).size=n:=by simp[Builtin.zeroCells,Value.cells]
set_option maxHeartbeats 4000000 in
theorem yFm (hP:X.P=Tryz.prog) {m m':Mem} {s r:D} {i:Nat} {v:Int} (h:yBf m s i (D.int .i64 v)=some (r,m')):qJ X 215 m [s,.int .i64 i,.slice (some 0) 1 [(D.int .i64 v)]] λr' m''=>r'=r/\m''=m':=by
 refine⟨by rw[hP];kernel_rfl,λB w S args R hm ha=>?_⟩
 subst hm
 obtain⟨l⟩:=args
 have hl:=ha.len
 match l,hl with
 |[sv,iv,vv],_=>
 have h0:yE w S s sv:=ha.at_ 0 _ _ rfl rfl
 have h1:=xX (ha.at_ 1 _ _ rfl rfl)
 have h2:yE w S (.slice (some 0) 1 [(D.int .i64 v)]) vv:=ha.at_ 2 _ _ rfl rfl
 subst h1
 rw[hP]
 cases h2 with
 |slice _ _ _ vb voff vc vals hk2 hcap2 hbig2 hsz2 hcl2 hvis2 htag2 hcell2 hv2=>
 obtain⟨hvc,vvs,vt,hvh⟩:=htag2
 have hx:yE w S (D.int .i64 v) (Value.int .i64 v):=.int _ _
 have hvs:∀(j:Nat) (u:Value),([(Value.int .i64 v)]:List Value)[j]?=some u->w.cell? ⟨vb,voff+j,none⟩=some u:=λj u hj=>by
  cases j with
  |zero=>
   have:=hcell2 0 (D.int .i64 v) rfl
   have e:=xX (hv2 0 (D.int .i64 v) rfl)
   rw[e] at this
   simp at hj;subst hj;exact this
  |succ j=>simp at hj
 have h1v:∀u∈([(Value.int .i64 v)]:List Value),u.oneCell'=true:=λu hu=>by simp at hu;subst hu;rfl
 have hvsz:vvs.size≠0:=λe=>by
  have:=hvs 0 _ rfl
  rw[cell_of_row w vb _ vvs vt _ hvh,Array.getElem?_eq_none (by omega)] at this;cases this
 cases s with
 | nil=>
  cases i with
  |succ i=>cases h
  |zero=>
  simp only[yBf,Option.some.injEq,Prod.mk.injEq] at h
  obtain⟨rfl,rfl⟩:=h
  rw[qT h0]
  refine(zGn none 0 0 vb voff 1 vc [] [(Value.int .i64 v)] w (by omega) (by omega) (by omega) (by omega) rfl rfl (λ_=>rfl) (λa e=>by cases e) hvs h1v).mono ?_
  rintro e w' ⟨rfl,rfl⟩
  have hg:=grownCap_ge w (0+1) 0 2
  have hg2:=Nat.le_trans (grownCap_le_maxLen w (0+1) 0 2 (by unfold maxLen;omega)) (show maxLen<=9223372036854775807 by unfold maxLen;omega)
  obtain⟨S',hm',R',E',hv'⟩:=zGy R (w1:=w.drew) rfl rfl rfl rfl (id:=S.m.boxes.length) (cs:=[]) (L:=[]) (v:=(D.int .i64 v)) (x:=(Value.int .i64 v)) (i:=0) (e:=2) (cap:=grownCap w (0+1) 0 2) (λc hc=>by rw[List.getElem?_eq_none (Nat.le_refl _)] at hc;cases hc) ⟨⟨rfl,λj c u hc=>by simp at hc⟩,λc hc=>by cases hc⟩ hx rfl (Nat.le_refl _)
   (A:=(([]:List Value)++[(Value.int .i64 v)]).toArray++Builtin.zeroCells (Value.int .i64 0).cells (grownCap w (0+1) 0 2-(0+1))) ⟨hg,by simp,hg2⟩ (by rw[Array.size_append,yHz];show 1+(_-(0+1))=_;omega) (by simp)
  refine⟨_,S',_,rfl,⟨rfl,?_⟩,R',E',hv'⟩
  rw[hm']
  simp[zGo,List.set_eq_of_length_le (Nat.le_refl _)]
 | rsl id off len k=>
  simp only[yBf] at h
  split at h
  ·rename_i cs hcs
   split at h
   ·rename_i hcond
    simp only[Bool.and_eq_true,decide_eq_true_eq] at hcond
    obtain⟨rfl,rfl,hcl,hpos,hil,hsmall⟩:=hcond
    subst hcl
    cases h
    have hne:cs≠[]:=λe=>by subst e;simp at hpos
    cases h0 with
    |rsl _ _ _ _ b cap hk0 hlc hbb hsh=>
    obtain⟨t0,sz0,hs1,hs2⟩:=hsh
    obtain⟨hcs',hno⟩:=yC hcs
    obtain⟨vs,t,fr,hh,hop,hsz,hc⟩:=(R.boxes id b cs hbb hcs').1 hno
    have hshp:=zBp hh
    rw[hshp] at hs1
    obtain⟨rfl,rfl⟩:t=t0/\vs.size=sz0:=by simpa using hs1
    have hcl:(vs.toList.take cs.length).length=cs.length:=by simp;omega
    have hcell:∀(j:Nat) (u:Value),(vs.toList.take cs.length)[j]?=some u->w.cell? ⟨b,0+j,none⟩=some u:=λj u hj=>by
     have hlt:j<cs.length:=by have:=zJ hj;omega
     rw[List.getElem?_take_of_lt hlt] at hj
     rw[Nat.zero_add,cell_of_row w b _ vs t fr hh];simpa using hj
    have h1c:∀u∈vs.toList.take cs.length,u.oneCell'=true:=zDk hc
    have hvb:vb≠b:=λe=>hvis2.bb (e▸List.mem_of_getElem? hbb)
    by_cases hroom:cs.length+1<=cap
    ·by_cases hi:i<cs.length
     ·refine(yAi b 0 cs.length cap i vb voff 1 vc (vs.toList.take cs.length) [(Value.int .i64 v)] w hi (by omega) hroom hlc.2.2 hvb hcl rfl hcell (λj hj=>by
        rw[Nat.zero_add,cell_of_row w b _ vs t fr hh,Array.getElem?_eq_getElem (by omega)];rfl) (λj hj=>by rw[Nat.zero_add];exact qD hh hop (by omega)) hvs h1c h1v vt t vvs.size vs.size (zBp hvh) hshp (by omega) (zBr hvh _) (zBr hvh _)).mono ?_
      rintro e w' ⟨rfl,rfl⟩
      have hdl:((vs.toList.take cs.length).drop i).length=cs.length-i:=by rw[List.length_drop,hcl]
      have hD:w.drew.heap[b]?=some (.cells vs t fr):=hh
      rw[Nat.zero_add,Nat.zero_add,xI b (i+1) hD hop (by omega) (λu hu=>h1c u (List.mem_of_mem_drop hu))]
      have hz:(vs.toList.take (i+1)++(vs.toList.take cs.length).drop i++vs.toList.drop (i+1+((vs.toList.take cs.length).drop i).length)).toArray.size=vs.size:=by
       simp;omega
      rw[xI b i (setRow_heap w.drew b vs _ t _ hD) (λj hj=>hop j (by rw[hz] at hj;exact hj)) (by rw[hz];simp;omega) h1v,setRow_setRow]
      obtain⟨S',hm',R',E',hv'⟩:=zIy R (w1:=w.drew) rfl rfl rfl rfl hbb hcs hne hh hop hc hx rfl hil (A:=(List.take i (vs.toList.take (i+1)++(vs.toList.take cs.length).drop i++vs.toList.drop (i+1+((vs.toList.take cs.length).drop i).length)).toArray.toList++[(Value.int .i64 v)]++List.drop (i+[(Value.int .i64 v)].length) (vs.toList.take (i+1)++(vs.toList.take cs.length).drop i++vs.toList.drop (i+1+((vs.toList.take cs.length).drop i).length)).toArray.toList).toArray) (cap:=cap) ⟨hroom,by omega,hlc.2.2⟩ (by simp;omega) (by omega) (yDr hil (by simp;omega))
      exact⟨_,S',_,rfl,⟨rfl,hm'⟩,R',E',hv'⟩
     ·obtain rfl:i=cs.length:=by omega
      refine(zPy b 0 cs.length cap vb voff 1 vc [(Value.int .i64 v)] w (by omega) hroom hlc.2.2 rfl (λj hj=>by
        rw[Nat.zero_add,cell_of_row w b _ vs t fr hh,Array.getElem?_eq_getElem (by omega)];rfl) (λj hj=>by rw[Nat.zero_add];exact qD hh hop (by omega)) hvs h1v).mono ?_
      rintro e w' ⟨rfl,rfl⟩
      rw[Nat.zero_add,xI b cs.length hh hop (by simp;omega) h1v]
      obtain⟨S',hm',R',E',hv'⟩:=zIy R (w1:=w) rfl rfl rfl rfl hbb hcs hne hh hop hc hx rfl hil (A:=(vs.toList.take cs.length++[(Value.int .i64 v)]++vs.toList.drop (cs.length+[(Value.int .i64 v)].length)).toArray) (cap:=cap) ⟨hroom,by omega,hlc.2.2⟩ (by simp;omega) (by omega) (by
       rw[List.take_of_length_le (l:=vs.toList.take cs.length) (by rw[hcl];exact Nat.le_refl _),List.drop_of_length_le (l:=vs.toList.take cs.length) (by rw[hcl];exact Nat.le_refl _)]
       exact List.take_left' (by simp;omega))
      exact⟨_,S',_,rfl,⟨rfl,hm'⟩,R',E',hv'⟩
    ·have hcc:cap=cs.length:=by omega
     by_cases hi:i<cs.length
     ·refine(yFl b 0 cs.length cap i vb voff 1 vc (vs.toList.take cs.length) [(Value.int .i64 v)] w hi (by omega) (by omega) (by omega) (by omega) hcl rfl hcell hvs h1c h1v).mono ?_
      rintro e w' ⟨rfl,rfl⟩
      have hg:=grownCap_ge w (cs.length+1) cap 2
      have hg2:=Nat.le_trans (grownCap_le_maxLen w (cs.length+1) cap 2 (by unfold maxLen;omega)) (show maxLen<=9223372036854775807 by unfold maxLen;omega)
      generalize hG:grownCap w (cs.length+1) cap 2=G at hg hg2 ⊢
      generalize hROW:((vs.toList.take cs.length).take i).toArray++Builtin.zeroCells (Value.int .i64 0).cells (cs.length+1-i)++Builtin.zeroCells (Value.int .i64 0).cells (G-(cs.length+1))=ROW
      have hRs:ROW.size=G:=by rw[<-hROW,Array.size_append,Array.size_append,yHz,yHz];simp;omega
      have hRt:ROW.toList.take i=(vs.toList.take cs.length).take i:=by
       rw[<-hROW]
       simp only[Array.toList_append,List.append_assoc]
       exact List.take_left' (by simp;omega)
      have hD0:((w.alloc (.cells ROW 2)).drew).heap[w.heap.size]?=some (.cells ROW 2 (0,0)):=wJ w _
      rw[xI w.heap.size i hD0 (xW _) (by simp;omega) h1v]
      have hz:(ROW.toList.take i++[(Value.int .i64 v)]++ROW.toList.drop (i+[(Value.int .i64 v)].length)).toArray.size=G:=by simp;omega
      have hD1:((((w.alloc (.cells ROW 2)).drew).setRow w.heap.size (ROW.toList.take i++[(Value.int .i64 v)]++ROW.toList.drop (i+[(Value.int .i64 v)].length)).toArray).drew).heap[w.heap.size]?=some (.cells (ROW.toList.take i++[(Value.int .i64 v)]++ROW.toList.drop (i+[(Value.int .i64 v)].length)).toArray 2 (0,0)):=setRow_heap _ _ ROW _ _ _ hD0
      have hdl:((vs.toList.take cs.length).drop i).length=cs.length-i:=by rw[List.length_drop,hcl]
      rw[xI w.heap.size (i+1) hD1 (xW _) (by rw[hz,hdl];omega) (λu hu=>h1c u (List.mem_of_mem_drop hu))]
      generalize hA:(List.take (i+1) (ROW.toList.take i++[(Value.int .i64 v)]++ROW.toList.drop (i+[(Value.int .i64 v)].length)).toArray.toList++(vs.toList.take cs.length).drop i++List.drop (i+1+((vs.toList.take cs.length).drop i).length) (ROW.toList.take i++[(Value.int .i64 v)]++ROW.toList.drop (i+[(Value.int .i64 v)].length)).toArray.toList).toArray=A
      have hAs:A.size=G:=by rw[<-hA];simp;omega
      have hAt:A.toList.take (cs.length+1)=(vs.toList.take cs.length).take i++(Value.int .i64 v)::(vs.toList.take cs.length).drop i:=by
       rw[<-hA]
       show List.take _ (List.take (i+1) (ROW.toList.take i++[(Value.int .i64 v)]++ROW.toList.drop (i+[(Value.int .i64 v)].length))++_++_)=_
       have hl1:(ROW.toList.take i++[(Value.int .i64 v)]).length=i+1:=by simp;omega
       have e1:List.take (i+1) (ROW.toList.take i++[(Value.int .i64 v)]++ROW.toList.drop (i+[(Value.int .i64 v)].length))=ROW.toList.take i++[(Value.int .i64 v)]:=by
        rw[List.take_append_of_le_length (by rw[hl1];exact Nat.le_refl _),List.take_of_length_le (by rw[hl1];exact Nat.le_refl _)]
       rw[e1,hRt]
       rw[hRt] at hl1
       rw[List.take_left' (by rw[List.length_append,hl1,hdl];omega)]
       simp
      obtain⟨S',hm',R',E',hv'⟩:=zGy R (w1:=w.drew.drew) rfl rfl rfl rfl (id:=id) (λc h=>by rw[hcs'] at h;cases h;exact hno) hc hx rfl hil (A:=A) (e:=2) (cap:=G) ⟨hg,by omega,hg2⟩ hAs hAt
      have hW:(((w.alloc (.cells ROW 2)).drew.setRow w.heap.size (ROW.toList.take i++[(Value.int .i64 v)]++ROW.toList.drop (i+[(Value.int .i64 v)].length)).toArray).drew).setRow w.heap.size A=w.drew.drew.alloc (.cells A 2 (0,0)):=by
       show ((w.drew.drew.alloc (.cells ROW 2)).setRow w.drew.drew.heap.size _).setRow w.drew.drew.heap.size A=_
       rw[setRow_setRow,zIh]
      rw[hW]
      exact⟨_,S',_,rfl,⟨rfl,hm'⟩,R',E',hv'⟩
     ·obtain rfl:i=cs.length:=by omega
      refine(zGn (some ⟨b,0,none⟩) cs.length cap vb voff 1 vc (vs.toList.take cs.length) [(Value.int .i64 v)] w (by omega) (by omega) (by omega) (by omega) hcl rfl (λe=>by cases e) (λa e j u hj=>by cases e;rw[wD];exact hcell j u hj) hvs h1v).mono ?_
      rintro e w' ⟨rfl,rfl⟩
      have hg:=grownCap_ge w (cs.length+1) cap 2
      have hg2:=Nat.le_trans (grownCap_le_maxLen w (cs.length+1) cap 2 (by unfold maxLen;omega)) (show maxLen<=9223372036854775807 by unfold maxLen;omega)
      generalize grownCap w (cs.length+1) cap 2=G at hg hg2 ⊢
      obtain⟨S',hm',R',E',hv'⟩:=zGy R (w1:=w.drew) rfl rfl rfl rfl (id:=id) (λc h=>by rw[hcs'] at h;cases h;exact hno) hc hx rfl hil (A:=(vs.toList.take cs.length++[(Value.int .i64 v)]).toArray++Builtin.zeroCells (Value.int .i64 0).cells (G-(cs.length+1))) (e:=2) (cap:=G) ⟨hg,by omega,hg2⟩ (by rw[Array.size_append,yHz];simp;omega) (by
       rw[List.take_of_length_le (l:=vs.toList.take cs.length) (by rw[hcl];exact Nat.le_refl _),List.drop_of_length_le (by rw[hcl];exact Nat.le_refl _)]
       simp only[Array.toList_append]
       exact List.take_left' (by simp;omega))
      exact⟨_,S',_,rfl,⟨rfl,hm'⟩,R',E',hv'⟩
   ·cases h
  ·cases h
 |_=>cases h
theorem yHy (n:Nat):(Builtin.zeroCells (Value.string ⟨#[]⟩).cells n).size=n:=by simp[Builtin.zeroCells,Value.cells]
set_option maxHeartbeats 4000000 in
theorem yFk (hP:X.P=Tryz.prog) {m m':Mem} {s r:D} {i:Nat} {v:List UInt8} (h:yBf m s i (D.str v)=some (r,m')):qJ X 221 m [s,.int .i64 i,.slice (some 0) 1 [(D.str v)]] λr' m''=>r'=r/\m''=m':=by
 refine⟨by rw[hP];kernel_rfl,λB w S args R hm ha=>?_⟩
 subst hm
 obtain⟨l⟩:=args
 have hl:=ha.len
 match l,hl with
 |[sv,iv,vv],_=>
 have h0:yE w S s sv:=ha.at_ 0 _ _ rfl rfl
 have h1:=xX (ha.at_ 1 _ _ rfl rfl)
 have h2:yE w S (.slice (some 0) 1 [(D.str v)]) vv:=ha.at_ 2 _ _ rfl rfl
 subst h1
 rw[hP]
 cases h2 with
 |slice _ _ _ vb voff vc vals hk2 hcap2 hbig2 hsz2 hcl2 hvis2 htag2 hcell2 hv2=>
 obtain⟨hvc,vvs,vt,hvh⟩:=htag2
 have hx:yE w S (D.str v) (Value.string ⟨v.toArray⟩):=.str _
 have hvs:∀(j:Nat) (u:Value),([(Value.string ⟨v.toArray⟩)]:List Value)[j]?=some u->w.cell? ⟨vb,voff+j,none⟩=some u:=λj u hj=>by
  cases j with
  |zero=>
   have:=hcell2 0 (D.str v) rfl
   have e:=zBz (hv2 0 (D.str v) rfl)
   rw[e] at this
   simp at hj;subst hj;exact this
  |succ j=>simp at hj
 have h1v:∀u∈([(Value.string ⟨v.toArray⟩)]:List Value),u.oneCell'=true:=λu hu=>by simp at hu;subst hu;rfl
 have hvsz:vvs.size≠0:=λe=>by
  have:=hvs 0 _ rfl
  rw[cell_of_row w vb _ vvs vt _ hvh,Array.getElem?_eq_none (by omega)] at this;cases this
 cases s with
 | nil=>
  cases i with
  |succ i=>cases h
  |zero=>
  simp only[yBf,Option.some.injEq,Prod.mk.injEq] at h
  obtain⟨rfl,rfl⟩:=h
  rw[qT h0]
  refine(zGm none 0 0 vb voff 1 vc [] [(Value.string ⟨v.toArray⟩)] w (by omega) (by omega) (by omega) (by omega) rfl rfl (λ_=>rfl) (λa e=>by cases e) hvs h1v).mono ?_
  rintro e w' ⟨rfl,rfl⟩
  have hg:=grownCap_ge w (0+1) 0 9
  have hg2:=Nat.le_trans (grownCap_le_maxLen w (0+1) 0 9 (by unfold maxLen;omega)) (show maxLen<=9223372036854775807 by unfold maxLen;omega)
  obtain⟨S',hm',R',E',hv'⟩:=zGy R (w1:=w.drew) rfl rfl rfl rfl (id:=S.m.boxes.length) (cs:=[]) (L:=[]) (v:=(D.str v)) (x:=(Value.string ⟨v.toArray⟩)) (i:=0) (e:=9) (cap:=grownCap w (0+1) 0 9) (λc hc=>by rw[List.getElem?_eq_none (Nat.le_refl _)] at hc;cases hc) ⟨⟨rfl,λj c u hc=>by simp at hc⟩,λc hc=>by cases hc⟩ hx rfl (Nat.le_refl _)
   (A:=(([]:List Value)++[(Value.string ⟨v.toArray⟩)]).toArray++Builtin.zeroCells (Value.string ⟨#[]⟩).cells (grownCap w (0+1) 0 9-(0+1))) ⟨hg,by simp,hg2⟩ (by rw[Array.size_append,yHy];show 1+(_-(0+1))=_;omega) (by simp)
  refine⟨_,S',_,rfl,⟨rfl,?_⟩,R',E',hv'⟩
  rw[hm']
  simp[zGo,List.set_eq_of_length_le (Nat.le_refl _)]
 | rsl id off len k=>
  simp only[yBf] at h
  split at h
  ·rename_i cs hcs
   split at h
   ·rename_i hcond
    simp only[Bool.and_eq_true,decide_eq_true_eq] at hcond
    obtain⟨rfl,rfl,hcl,hpos,hil,hsmall⟩:=hcond
    subst hcl
    cases h
    have hne:cs≠[]:=λe=>by subst e;simp at hpos
    cases h0 with
    |rsl _ _ _ _ b cap hk0 hlc hbb hsh=>
    obtain⟨t0,sz0,hs1,hs2⟩:=hsh
    obtain⟨hcs',hno⟩:=yC hcs
    obtain⟨vs,t,fr,hh,hop,hsz,hc⟩:=(R.boxes id b cs hbb hcs').1 hno
    have hshp:=zBp hh
    rw[hshp] at hs1
    obtain⟨rfl,rfl⟩:t=t0/\vs.size=sz0:=by simpa using hs1
    have hcl:(vs.toList.take cs.length).length=cs.length:=by simp;omega
    have hcell:∀(j:Nat) (u:Value),(vs.toList.take cs.length)[j]?=some u->w.cell? ⟨b,0+j,none⟩=some u:=λj u hj=>by
     have hlt:j<cs.length:=by have:=zJ hj;omega
     rw[List.getElem?_take_of_lt hlt] at hj
     rw[Nat.zero_add,cell_of_row w b _ vs t fr hh];simpa using hj
    have h1c:∀u∈vs.toList.take cs.length,u.oneCell'=true:=zDk hc
    have hvb:vb≠b:=λe=>hvis2.bb (e▸List.mem_of_getElem? hbb)
    by_cases hroom:cs.length+1<=cap
    ·by_cases hi:i<cs.length
     ·refine(yAh b 0 cs.length cap i vb voff 1 vc (vs.toList.take cs.length) [(Value.string ⟨v.toArray⟩)] w hi (by omega) hroom hlc.2.2 hvb hcl rfl hcell (λj hj=>by
        rw[Nat.zero_add,cell_of_row w b _ vs t fr hh,Array.getElem?_eq_getElem (by omega)];rfl) (λj hj=>by rw[Nat.zero_add];exact qD hh hop (by omega)) hvs h1c h1v vt t vvs.size vs.size (zBp hvh) hshp (by omega) (zBr hvh _) (zBr hvh _)).mono ?_
      rintro e w' ⟨rfl,rfl⟩
      have hdl:((vs.toList.take cs.length).drop i).length=cs.length-i:=by rw[List.length_drop,hcl]
      have hD:w.drew.heap[b]?=some (.cells vs t fr):=hh
      rw[Nat.zero_add,Nat.zero_add,xI b (i+1) hD hop (by omega) (λu hu=>h1c u (List.mem_of_mem_drop hu))]
      have hz:(vs.toList.take (i+1)++(vs.toList.take cs.length).drop i++vs.toList.drop (i+1+((vs.toList.take cs.length).drop i).length)).toArray.size=vs.size:=by
       simp;omega
      rw[xI b i (setRow_heap w.drew b vs _ t _ hD) (λj hj=>hop j (by rw[hz] at hj;exact hj)) (by rw[hz];simp;omega) h1v,setRow_setRow]
      obtain⟨S',hm',R',E',hv'⟩:=zIy R (w1:=w.drew) rfl rfl rfl rfl hbb hcs hne hh hop hc hx rfl hil (A:=(List.take i (vs.toList.take (i+1)++(vs.toList.take cs.length).drop i++vs.toList.drop (i+1+((vs.toList.take cs.length).drop i).length)).toArray.toList++[(Value.string ⟨v.toArray⟩)]++List.drop (i+[(Value.string ⟨v.toArray⟩)].length) (vs.toList.take (i+1)++(vs.toList.take cs.length).drop i++vs.toList.drop (i+1+((vs.toList.take cs.length).drop i).length)).toArray.toList).toArray) (cap:=cap) ⟨hroom,by omega,hlc.2.2⟩ (by simp;omega) (by omega) (yDr hil (by simp;omega))
      exact⟨_,S',_,rfl,⟨rfl,hm'⟩,R',E',hv'⟩
     ·obtain rfl:i=cs.length:=by omega
      refine(zPx b 0 cs.length cap vb voff 1 vc [(Value.string ⟨v.toArray⟩)] w (by omega) hroom hlc.2.2 rfl (λj hj=>by
        rw[Nat.zero_add,cell_of_row w b _ vs t fr hh,Array.getElem?_eq_getElem (by omega)];rfl) (λj hj=>by rw[Nat.zero_add];exact qD hh hop (by omega)) hvs h1v).mono ?_
      rintro e w' ⟨rfl,rfl⟩
      rw[Nat.zero_add,xI b cs.length hh hop (by simp;omega) h1v]
      obtain⟨S',hm',R',E',hv'⟩:=zIy R (w1:=w) rfl rfl rfl rfl hbb hcs hne hh hop hc hx rfl hil (A:=(vs.toList.take cs.length++[(Value.string ⟨v.toArray⟩)]++vs.toList.drop (cs.length+[(Value.string ⟨v.toArray⟩)].length)).toArray) (cap:=cap) ⟨hroom,by omega,hlc.2.2⟩ (by simp;omega) (by omega) (by
       rw[List.take_of_length_le (l:=vs.toList.take cs.length) (by rw[hcl];exact Nat.le_refl _),List.drop_of_length_le (l:=vs.toList.take cs.length) (by rw[hcl];exact Nat.le_refl _)]
       exact List.take_left' (by simp;omega))
      exact⟨_,S',_,rfl,⟨rfl,hm'⟩,R',E',hv'⟩
    ·have hcc:cap=cs.length:=by omega
     by_cases hi:i<cs.length
     ·refine(yFj b 0 cs.length cap i vb voff 1 vc (vs.toList.take cs.length) [(Value.string ⟨v.toArray⟩)] w hi (by omega) (by omega) (by omega) (by omega) hcl rfl hcell hvs h1c h1v).mono ?_
      rintro e w' ⟨rfl,rfl⟩
      have hg:=grownCap_ge w (cs.length+1) cap 9
      have hg2:=Nat.le_trans (grownCap_le_maxLen w (cs.length+1) cap 9 (by unfold maxLen;omega)) (show maxLen<=9223372036854775807 by unfold maxLen;omega)
      generalize hG:grownCap w (cs.length+1) cap 9=G at hg hg2 ⊢
      generalize hROW:((vs.toList.take cs.length).take i).toArray++Builtin.zeroCells (Value.string ⟨#[]⟩).cells (cs.length+1-i)++Builtin.zeroCells (Value.string ⟨#[]⟩).cells (G-(cs.length+1))=ROW
      have hRs:ROW.size=G:=by rw[<-hROW,Array.size_append,Array.size_append,yHy,yHy];simp;omega
      have hRt:ROW.toList.take i=(vs.toList.take cs.length).take i:=by
       rw[<-hROW]
       simp only[Array.toList_append,List.append_assoc]
       exact List.take_left' (by simp;omega)
      have hD0:((w.alloc (.cells ROW 9)).drew).heap[w.heap.size]?=some (.cells ROW 9 (0,0)):=wJ w _
      rw[xI w.heap.size i hD0 (xW _) (by simp;omega) h1v]
      have hz:(ROW.toList.take i++[(Value.string ⟨v.toArray⟩)]++ROW.toList.drop (i+[(Value.string ⟨v.toArray⟩)].length)).toArray.size=G:=by simp;omega
      have hD1:((((w.alloc (.cells ROW 9)).drew).setRow w.heap.size (ROW.toList.take i++[(Value.string ⟨v.toArray⟩)]++ROW.toList.drop (i+[(Value.string ⟨v.toArray⟩)].length)).toArray).drew).heap[w.heap.size]?=some (.cells (ROW.toList.take i++[(Value.string ⟨v.toArray⟩)]++ROW.toList.drop (i+[(Value.string ⟨v.toArray⟩)].length)).toArray 9 (0,0)):=setRow_heap _ _ ROW _ _ _ hD0
      have hdl:((vs.toList.take cs.length).drop i).length=cs.length-i:=by rw[List.length_drop,hcl]
      rw[xI w.heap.size (i+1) hD1 (xW _) (by rw[hz,hdl];omega) (λu hu=>h1c u (List.mem_of_mem_drop hu))]
      generalize hA:(List.take (i+1) (ROW.toList.take i++[(Value.string ⟨v.toArray⟩)]++ROW.toList.drop (i+[(Value.string ⟨v.toArray⟩)].length)).toArray.toList++(vs.toList.take cs.length).drop i++List.drop (i+1+((vs.toList.take cs.length).drop i).length) (ROW.toList.take i++[(Value.string ⟨v.toArray⟩)]++ROW.toList.drop (i+[(Value.string ⟨v.toArray⟩)].length)).toArray.toList).toArray=A
      have hAs:A.size=G:=by rw[<-hA];simp;omega
      have hAt:A.toList.take (cs.length+1)=(vs.toList.take cs.length).take i++(Value.string ⟨v.toArray⟩)::(vs.toList.take cs.length).drop i:=by
       rw[<-hA]
       show List.take _ (List.take (i+1) (ROW.toList.take i++[(Value.string ⟨v.toArray⟩)]++ROW.toList.drop (i+[(Value.string ⟨v.toArray⟩)].length))++_++_)=_
       have hl1:(ROW.toList.take i++[(Value.string ⟨v.toArray⟩)]).length=i+1:=by simp;omega
       have e1:List.take (i+1) (ROW.toList.take i++[(Value.string ⟨v.toArray⟩)]++ROW.toList.drop (i+[(Value.string ⟨v.toArray⟩)].length))=ROW.toList.take i++[(Value.string ⟨v.toArray⟩)]:=by
        rw[List.take_append_of_le_length (by rw[hl1];exact Nat.le_refl _),List.take_of_length_le (by rw[hl1];exact Nat.le_refl _)]
       rw[e1,hRt]
       rw[hRt] at hl1
       rw[List.take_left' (by rw[List.length_append,hl1,hdl];omega)]
       simp
      obtain⟨S',hm',R',E',hv'⟩:=zGy R (w1:=w.drew.drew) rfl rfl rfl rfl (id:=id) (λc h=>by rw[hcs'] at h;cases h;exact hno) hc hx rfl hil (A:=A) (e:=9) (cap:=G) ⟨hg,by omega,hg2⟩ hAs hAt
      have hW:(((w.alloc (.cells ROW 9)).drew.setRow w.heap.size (ROW.toList.take i++[(Value.string ⟨v.toArray⟩)]++ROW.toList.drop (i+[(Value.string ⟨v.toArray⟩)].length)).toArray).drew).setRow w.heap.size A=w.drew.drew.alloc (.cells A 9 (0,0)):=by
       show ((w.drew.drew.alloc (.cells ROW 9)).setRow w.drew.drew.heap.size _).setRow w.drew.drew.heap.size A=_
       rw[setRow_setRow,zIh]
      rw[hW]
      exact⟨_,S',_,rfl,⟨rfl,hm'⟩,R',E',hv'⟩
     ·obtain rfl:i=cs.length:=by omega
      refine(zGm (some ⟨b,0,none⟩) cs.length cap vb voff 1 vc (vs.toList.take cs.length) [(Value.string ⟨v.toArray⟩)] w (by omega) (by omega) (by omega) (by omega) hcl rfl (λe=>by cases e) (λa e j u hj=>by cases e;rw[wD];exact hcell j u hj) hvs h1v).mono ?_
      rintro e w' ⟨rfl,rfl⟩
      have hg:=grownCap_ge w (cs.length+1) cap 9
      have hg2:=Nat.le_trans (grownCap_le_maxLen w (cs.length+1) cap 9 (by unfold maxLen;omega)) (show maxLen<=9223372036854775807 by unfold maxLen;omega)
      generalize grownCap w (cs.length+1) cap 9=G at hg hg2 ⊢
      obtain⟨S',hm',R',E',hv'⟩:=zGy R (w1:=w.drew) rfl rfl rfl rfl (id:=id) (λc h=>by rw[hcs'] at h;cases h;exact hno) hc hx rfl hil (A:=(vs.toList.take cs.length++[(Value.string ⟨v.toArray⟩)]).toArray++Builtin.zeroCells (Value.string ⟨#[]⟩).cells (G-(cs.length+1))) (e:=9) (cap:=G) ⟨hg,by omega,hg2⟩ (by rw[Array.size_append,yHy];simp;omega) (by
       rw[List.take_of_length_le (l:=vs.toList.take cs.length) (by rw[hcl];exact Nat.le_refl _),List.drop_of_length_le (by rw[hcl];exact Nat.le_refl _)]
       simp only[Array.toList_append]
       exact List.take_left' (by simp;omega))
      exact⟨_,S',_,rfl,⟨rfl,hm'⟩,R',E',hv'⟩
   ·cases h
  ·cases h
 |_=>cases h
set_option maxHeartbeats 1000000 in
set_option maxRecDepth 100000 in
theorem ySd (a b:ByteArray) (w:World):Calls Tryz.prog 181 #[.string a,.string b] w λe w'=>e=.returned (.int .i64 (Lib.compareBytes a.data.toList b.data.toList))/\w'=w:=by
 have mixed:Tryz.prog.follows .mixedOrders=true:=by kernel_rfl
 have u3:=run_underlying Tryz.underlying3
 have u9:=run_underlying Tryz.underlying9
 go_enter Tryz.func181,Tryz.ntmps181
 go_wp2
 rw[run_callFunc_extern Tryz.func251 (by kernel_rfl) (by kernel_rfl) (by kernel_rfl) (e:=Extern.BytealgCompare.compare) (by kernel_rfl),Lib.run_compareString]
 simp only[Result.andThen]
 rw[Oper.upon_value]
 go_wp2
 go_ret
 exact⟨rfl,rfl⟩
theorem yLi (hP:X.P=Tryz.prog) (m:Mem) (a b:List UInt8):qJ X 181 m [.str a,.str b] λr m'=>r=.int .i64 (Lib.compareBytes a b)/\m'=m:=by
 refine⟨by rw[hP];kernel_rfl,λB w S args R hm ha=>?_⟩
 subst hm
 obtain⟨l⟩:=args
 have hl:=ha.len
 match l,hl with
 |[x,y],_=>
 have h0:=zBz (ha.at_ 0 _ _ rfl rfl)
 have h1:=zBz (ha.at_ 1 _ _ rfl rfl)
 subst h0
 subst h1
 rw[hP]
 refine(ySd _ _ w).mono ?_
 rintro e w' ⟨rfl,rfl⟩
 exact⟨_,S,_,rfl,⟨rfl,rfl⟩,R,Ext.refl _ _ S,.int _ _⟩
def prX (g:Nat) (m:Mem) (ds:List D):Option (D×Mem):=match g,ds with
 |181,[.str a,.str b]=>some (.int .i64 (Lib.compareBytes a b),m)
 |215,[s,.int .i64 (.ofNat i),.slice (some 0) 1 [.int .i64 v]]=>yBf m s i (.int .i64 v)
 |221,[s,.int .i64 (.ofNat i),.slice (some 0) 1 [.str v]]=>yBf m s i (.str v)
 |_,_=>none
theorem yZh (hP:X.P=Tryz.prog) (hX:X.pr=prX):xHv X:=by
 intro g m ds v m' h
 rw[hX] at h
 unfold prX at h
 split at h
 ·cases h;exact yLi hP _ _ _
 ·exact yFm hP h
 ·exact yFk hP h
 ·cases h
end
end Go.Eng
