/- Part of the engine that proves it: see the last text. -/
import Derived.Laws.MakeOwn
import Derived.OrdersIn
import Derived.RangeFuncCalls
import Derived.Test.YtggiaoaballdgaaGreatDoorJ0
set_option linter.unusedSimpArgs false
set_option linter.unusedVariables false
namespace Go.Eng
open Go
structure zCe (X:Ctx) (B N:Nat) (w:World) (S:Sh) (w':World) (S':Sh):Prop where
 rel:yI X B w' S'
 ext:Ext N w S w' S'
 priv:∀b,S.mu b->w'.heap[b]?=w.heap[b]?
 muK:∀b,S.mu b->S'.mu b
section
variable {X:Ctx} {B N:Nat} {w w':World} {S S':Sh} {st:St} {lb:Nat->Nat} {a:Act}
theorem zAk {P:Program} {e:Nat} (h:yV P e=true):∃i,P.info? e=some i/\1<=i.size/\i.bytes<=4096:=by
 unfold yV at h
 split at h
 ·rename_i i hi
  simp at h
  exact⟨i,hi,h.1,h.2⟩
 ·cases h
theorem zFp {P:Program} {e k:Nat} {i:TypeInfo} (hi:P.info? e=some i) (h:yS P e=some k):i.size=k:=by
 unfold yS at h;rw[hi] at h;cases h;rfl
theorem zDo (R:yI X B w S) (o:Obj):∀b,S.mu b->(w.alloc o).heap[b]?=w.heap[b]?:=λb h=>zU w o (R.mu b h)
theorem yZp (R:yI X B w S) {es:List D} {vs:Array Value} (t:TypeId) {k cap:Nat} (hk:0<k) (hbig:es.length<=140737488355328) (hcap:es.length<=cap) (hs:vs.size=cap*k)
  (hsz:∀d∈es,d.cells.length=k) (hc:xN w S (zV es) (vs.toList.take (es.length*k))) :
  zCe X B N w S (w.alloc (.cells vs t (0,0))) (S.addTok w.heap.size k es.length)/\
  yE (w.alloc (.cells vs t (0,0))) (S.addTok w.heap.size k es.length) (.slice (some (S.m.toks.length+1)) k es) (.slice (some ⟨w.heap.size,0,none⟩) es.length cap):=by
 have hfit:es.length*k<=vs.size:=by rw[hs];exact Nat.mul_le_mul_right _ hcap
 have E:=Ext.allocTok (N:=N) R (.cells vs t (0,0)) k es.length
 have R':=R.allocTok t hk hfit
 refine⟨⟨R',E,zDo R _,λ_ h=>h⟩,?_⟩
 refine zTv hk hbig hcap hsz (wJ w _) (hc.mono E R.tidy) (λh=>by have:=R.mu _ h;omega) (λh=>by have:=R.bbLt _ h;omega) ?_ ?_ (λi k' h=>?_) hs ⟨_,Nat.le_refl _,R.okNew _ _ (Nat.le_refl _)⟩
 ·simp[Sh.addTok,<-R.tbLen]
 ·simp[Sh.addTok]
 ·rcases zP h with h|⟨h,_⟩
  ·have:=R.tbLt i _ k' h;omega
  ·rw[h,R.tbLen]
theorem yQq (R:yI X B w S) {es:List D} {vs:Array Value} (t:TypeId) {k:Nat} (hk:0<k) (hbig:es.length<=140737488355328)
  (hsz:∀d∈es,d.cells.length=k) (hc:xN w S (zV es) vs.toList) :
  zCe X B N w S (w.alloc (.cells vs t (0,0))) S/\
  yE (w.alloc (.cells vs t (0,0))) S (.slice (some 0) k es) (.slice (some ⟨w.heap.size,0,none⟩) es.length es.length):=by
 have E:=Ext.allocFull (N:=N) R (.cells vs t (0,0))
 refine⟨⟨R.allocFull _,E,zDo R _,λ_ h=>h⟩,?_⟩
 exact yFq hk hbig hsz (wJ w _) (hc.mono E R.tidy) (λh=>by have:=R.mu _ h;omega) (λh=>by have:=R.bbLt _ h;omega) (λi k' h=>by have:=R.tbLt i _ k' h;omega) (R.okNew _ _ (Nat.le_refl _))
theorem zKh (R:yI X B w S) {cs:List D} {vs:Array Value} (t:TypeId) {fr:Nat×Nat} {k len cap:Nat} (hk:0<k) (hcap:len<=cap/\len<=140737488355328/\cap<=9223372036854775807) (ho:zEk vs fr) (hl:cs.length<=vs.size) (hcs:cap*k<=vs.size) (hc:xN w S cs (vs.toList.take cs.length)) :
  zCe X B N w S (w.alloc (.cells vs t fr)) (S.addBox w.heap.size cs)/\yE (w.alloc (.cells vs t fr)) (S.addBox w.heap.size cs) (.rsl S.m.boxes.length 0 len k) (.slice (some ⟨w.heap.size,0,none⟩) len cap):=by
 refine⟨⟨R.allocBoxP t ho hl hc,Ext.allocBox R _ cs,zDo R _,λ_ h=>h⟩,.rsl _ 0 len k _ cap hk hcap ?_ ⟨t,vs.size,?_,by omega⟩⟩
 ·simp[Sh.addBox,<-R.bbLen]
 ·unfold World.shape?;rw[wJ]
theorem yLr (R:yI X B w S) (A:vK N w S st lb a) {src dst':Nat} {x:Operand} {d:D} {m':Mem} {dst:Option Nat} {ty:Nat} {pos:String} {af:Array Edge} {gd:Option (Nat×Bool)} {bx:Bool}
  (h:wO X bx S.m st (.convert src dst' x)=some (d,m')) :
  ∃v w' S',(execOp a.eval ⟨dst,.convert src dst' x,ty,pos,af,gd⟩).run X.P w=.ok (.value v) w'/\S'.m=m'/\zCe X B N w S w' S'/\yE w' S' d v:=by
 simp only[wO] at h
 split at h
 ·rename_i s hty hx
  simp only[Bool.and_eq_true] at hty
  obtain⟨e,h1,h2⟩:=zIg hty.2
  have h3:=zDm hty.1
  by_cases hl:s.length<=16777216
  ·simp only[hl,decide_true,cond_true] at h
   cases h
   have hv:=xP R A x
   rw[hx] at hv
   have hvs:=zBz hv
   have hr:=run_bytes_of_string (P:=X.P) w src dst' e ⟨s.toArray⟩ h3 h1 h2
   have ED:Ext N w S w.drew S:=Ext.ofHeap rfl rfl rfl rfl
   have RD:yI X B w.drew S:=R.ofHeap rfl rfl rfl rfl
   have hsz:(⟨s.toArray⟩:ByteArray).size=s.length:=zKe s
   generalize hcap:grownCap w (⟨s.toArray⟩:ByteArray).size 0 e=cap at hr
   have hcl:s.length<=cap:=by
    rw[<-hcap,hsz]
    show s.length<=(Question.appendCap s.length 0 e).cut _
    show s.length<=s.length+0+_
    omega
   have hrow:bytesRow ⟨s.toArray⟩ cap=((s.map λ(b:UInt8)=>Value.int .u8 b.toNat)++List.replicate (cap-s.length) (Value.int .u8 0)).toArray:=by
    unfold bytesRow
    rw[hsz]
    simp
   have ho:zEk (bytesRow ⟨s.toArray⟩ cap) ((bytesRow ⟨s.toArray⟩ cap).size,(bytesRow ⟨s.toArray⟩ cap).size+1):=λj hj h=>by omega
   have hlen:(s.map yT).length<=(bytesRow ⟨s.toArray⟩ cap).size:=by rw[hrow];simp
   have hcc:xN w.drew S (s.map yT) ((bytesRow ⟨s.toArray⟩ cap).toList.take (s.map yT).length):=by
    rw[hrow]
    simp only[List.length_map]
    rw[List.take_append_of_le_length (by simp),List.take_of_length_le (by simp)]
    refine⟨⟨by simp,λj c v hc hv=>?_⟩,λc hc=>?_⟩
    ·simp only[List.getElem?_map,Option.map_eq_some_iff] at hc hv
     obtain⟨b,hb,rfl⟩:=hc
     obtain⟨b',hb',rfl⟩:=hv
     rw[hb] at hb';cases hb'
     exact .int _ _
    ·simp only[List.mem_map] at hc
     obtain⟨b,_,rfl⟩:=hc
     rfl
   obtain⟨st1,hv1⟩:=zKh (N:=N) RD e (show 0<1 by omega) ⟨hcl,by omega,by rw[<-hcap,hsz];exact Nat.le_trans (grownCap_le_maxLen w s.length 0 e (by unfold maxLen;omega)) (by unfold maxLen;omega)⟩ ho hlen (by rw[hrow];simp;omega) hcc
   refine⟨_,_,_,?_,?_,⟨st1.rel,ED.trans R.tidy st1.ext,λb hb=>st1.priv b hb,st1.muK⟩,hv1⟩
   ·simp only[execOp,Sem.run_bind,hvs,hr]
    rw[hsz];rfl
   ·simp[Sh.addBox]
  ·simp[hl] at h
 ·cases h
theorem zSv (R:yI X B w S) (A:vK N w S st lb a) {t:Nat} {l c:Operand} {d:D} {m':Mem} {dst:Option Nat} {ty:Nat} {pos:String} {af:Array Edge} {gd:Option (Nat×Bool)} {bx:Bool}
  (h:wO X bx S.m st (.makeSlice t l c)=some (d,m')) :
  ∃v w' S',(execOp a.eval ⟨dst,.makeSlice t l c,ty,pos,af,gd⟩).run X.P w=.ok (.value v) w'/\S'.m=m'/\zCe X B N w S w' S'/\yE w' S' d v:=by
 simp only[wO] at h
 split at h
 ·rename_i e n n' hs hl hc
  split at h
  ·rename_i k z hk hb hz
   cases hcond:(z.okC&&decide (z.cells.length=k)&&decide (0<=n)&&decide (n=n')&&decide (n<=16777216)) with
   |false=>rw[hcond] at h;cases h
   | true=>
    rw[hcond] at h
    simp only[cond_true] at h
    simp only[Bool.and_eq_true,decide_eq_true_eq] at hcond
    obtain⟨⟨⟨⟨c1,c2⟩,c3⟩,rfl⟩,c5⟩:=hcond
    cases h
    obtain⟨i,hi,hi1,hi2⟩:=zAk hb
    have hik:=zFp hi hk
    have k0:0<k:=by omega
    obtain⟨nn,rfl⟩:=vY c3
    obtain⟨zv,hzv,hzc⟩:=uQ hz
    have hz':=qC (w:=w) (S:=S) hzc
    have hzl:zv.cells.size=k:=by have:=(vH hz' c1).len;simp at this;omega
    have hrow:=zOw hz' c1 c2 nn
    have h1:=xP R A l
    have h2:=xP R A c
    rw[hl] at h1
    rw[hc] at h2
    have hbig:(i.bytes:Int)*(nn:Int)<=281474976710656:=by
     have h1:i.bytes*nn<=4096*16777216:=Nat.mul_le_mul hi2 (by omega)
     have h2:((i.bytes*nn:Nat):Int)<=281474976710656:=by omega
     rwa [Int.natCast_mul] at h2
    have hr:=run_make (P:=X.P) w t e i zv (zW hs) hi (by rw[hi] at hzv;exact hzv) .i64 .i64 nn nn (by omega) (Int.le_refl _) hbig (by omega)
    simp only[Int.toNat_natCast] at hr
    obtain⟨st1,hv1⟩:=zKh (N:=N) R e k0 (⟨Nat.le_refl nn,by omega,by omega⟩:nn<=nn/\nn<=140737488355328/\nn<=9223372036854775807) (xW (madeCells zv.cells (nn*i.size))) (cs:=zV (List.replicate nn z)) (by have:=hrow.len;simp at this;rw[size_madeCells,hik];omega) (by rw[size_madeCells,hik];exact Nat.le_refl _) (by
     rw[List.take_of_length_le (by have:=hrow.len;simp at this;simp[size_madeCells,hik];omega)]
     unfold madeCells
     rw[hik]
     exact hrow)
    refine⟨_,_,_,?_,?_,st1,hv1⟩
    ·simp only[execOp,Sem.run_bind,xX h1,xX h2,hr];rfl
    ·simp[Sh.addBox]
  ·cases h
 ·cases h
theorem zPz (R:yI X B w S) (A:vK N w S st lb a) {t len:Nat} {parts:Array (Nat×Operand)} {d:D} {dst:Option Nat} {ty:Nat} {pos:String} {af:Array Edge} {gd:Option (Nat×Bool)}
  (h:yBb X st (.buildSlice t len parts)=some d) :
  ∃v w' S',(execOp a.eval ⟨dst,.buildSlice t len parts,ty,pos,af,gd⟩).run X.P w=.ok (.value v) w'/\S'.m=S.m/\zCe X B N w S w' S'/\yE w' S' d v:=by
 simp only[yBb] at h
 split at h
 ·rename_i e hs
  split at h
  ·rename_i k z hk hb hz
   cases hc:(z.okC&&decide (z.cells.length=k)&&decide (len*k<=16777216)) with
   |false=>rw[hc] at h;cases h
   | true=>
    rw[hc] at h
    simp only[cond_true] at h
    simp only[Bool.and_eq_true,decide_eq_true_eq] at hc
    obtain⟨⟨c1,c2⟩,c3⟩:=hc
    obtain⟨i,hi,hi1,hi2⟩:=zAk hb
    have hik:=zFp hi hk
    have k0:0<k:=by omega
    obtain⟨zv,hzv,hzc⟩:=uQ hz
    have hz':=qC (w:=w) (S:=S) hzc
    have hrow:=zOw hz' c1 c2 len
    have main:∀out,zOh (List.replicate len z) k (wH X st parts.toList)=some out->∃us:Array Value,
      (execOp a.eval ⟨dst,.buildSlice t len parts,ty,pos,af,gd⟩).run X.P w=.ok (.value (.slice (some ⟨w.heap.size,0,none⟩) len len)) (w.alloc (.cells us e (0,0)))/\xN w S (zV out) us.toList/\out.length=len/\(∀d∈out,d.cells.length=k)/\us.size=len*k:=λout ho=>by
     obtain⟨us,h1,h2,h3,h4⟩:=zRg (w:=w) (S:=S) (wH X st parts.toList) (parts.toList.map λ(i,x)=>(i,a.eval x)) (List.replicate len z) _ out (by rw[zBu];simp) (zIv R A parts.toList) hrow
      (λd hd=>by rw[List.eq_of_mem_replicate hd];exact c2) ho
     have h3':out.length=len:=by simpa using h3
     refine⟨us,?_,h2,h3',h4,by have:=h2.len;rw[yN out h4,h3'] at this;simp at this;omega⟩
     have e1:(parts.map λ(i,x)=>(i,a.eval x)).toList=parts.toList.map λ(i,x)=>(i,a.eval x):=by simp
     simp only[execOp,Instr.buildSlice,Sem.run_bind,zB (zW hs),Result.andThen_ok,yJ hk,Sem.run_ite]
     rw[if_neg (by omega)]
     by_cases h0:len*k=0
     ·rw[if_pos h0]
      have earr:((Array.range (len*k)).map λi=>(#[]:Array Value)[i % (#[]:Array Value).size]!)=(Array.range (len*k)).map λi=>zv.cells[i % zv.cells.size]!:=by
       rw[h0];simp
      simp only[Sem.run_pure,Result.andThen_ok,earr,e1,h1]
      simp[newRow]
     ·rw[if_neg h0]
      simp only[vA hzv,Sem.run_pure,Result.andThen_ok,e1,h1]
      simp[newRow]
    split at h
    ·rename_i es ho
     cases h
     obtain⟨us,hr,hc,hl,hsz,hus⟩:=main es ho
     have hbig:es.length<=140737488355328:=by
      rw[hl]
      have:len*1<=len*k:=Nat.mul_le_mul_left _ k0
      omega
     obtain⟨h1,h2⟩:=yQq (N:=N) R e k0 hbig hsz hc
     rw[hl] at h2
     exact⟨_,_,_,hr,rfl,h1,h2⟩
    ·cases h
  ·cases h
 ·cases h
theorem zRw (n:Nat):∀(r c:Nat),c<=n+(n+768) / 4->Builtin.growBy n r c<=n+(n+768) / 4
 |0,c,h=>h
 |r+1,c,h=>by
  unfold Builtin.growBy
  split
  ·exact h
  ·exact zRw n r _ (by omega)
theorem zMi (n c:Nat) (h:c<n):Builtin.nextslicecap n c<=2*n+192:=by
 unfold Builtin.nextslicecap
 split
 ·omega
 ·split
  ·omega
  ·have:=zRw n 4 c (by omega);omega
theorem xR (k:Nat):∀(n:Nat) (cs:List D),(wI k n cs).length=n
 |0,_=>rfl
 |n+1,cs=>by simp[wI,xR k n]
theorem zNs {k:Nat} {cs:List D} (hok:∀c∈cs,c.isCell=true):(yBn k cs).cells=cs:=by
 unfold yBn
 split
 ·rename_i c
  have:=hok c (List.mem_cons_self ..)
  cases c<;>first|rfl|cases this
 ·rfl
theorem zAj (k:Nat):∀(n:Nat) (cs:List D),0<k->(∀c∈cs,c.isCell=true)->n*k<=cs.length->∀d∈wI k n cs,d.cells.length=k
 |0,_,_,_,_,d,h=>by simp[wI] at h
 |n+1,cs,hk,hok,hl,d,h=>by
  rw[Nat.succ_mul] at hl
  simp only[wI,List.mem_cons] at h
  rcases h with rfl|h
  ·rw[zNs (λc hc=>hok c (List.mem_of_mem_take hc)),List.length_take];omega
  ·exact zAj k n (cs.drop k) hk (λc hc=>hok c (List.mem_of_mem_drop hc)) (by rw[List.length_drop];omega) d h
theorem wS (k:Nat):∀(n:Nat) (cs:List D),0<k->(∀c∈cs,c.isCell=true)->n*k<=cs.length->zV (wI k n cs)=cs.take (n*k)
 |0,_,_,_,_=>by simp[wI,zV]
 |n+1,cs,hk,hok,hl=>by
  rw[Nat.succ_mul] at hl
  have ih:=wS k n (cs.drop k) hk (λc hc=>hok c (List.mem_of_mem_drop hc)) (by rw[List.length_drop];omega)
  simp only[wI,zV,ih]
  rw[zNs (λc hc=>hok c (List.mem_of_mem_take hc)),Nat.succ_mul,Nat.add_comm (n*k) k,List.take_add]
theorem qK (R:yI X B w S) {x:D} {k:Nat} {xs:List D} (h:zY S.m k x=some xs) {v:Value} (hv:yE w S x v) :
  (Builtin.lenOf v).run X.P w=.ok xs.length w/\∃arr:Array Value,(Builtin.firstCells k xs.length v).run X.P w=.ok arr w/\xN w S (zV xs) arr.toList/\arr.size=xs.length*k/\∀d∈xs,d.cells.length=k:=by
 have nothing:xN w S (zV []) (#[]:Array Value).toList:=⟨⟨rfl,λj c v hc=>by simp[zV] at hc⟩,λc hc=>by simp[zV] at hc⟩
 unfold zY at h
 split at h
 ·rename_i id off len k'
  by_cases hk:k'=k
  ·subst hk
   simp only[decide_true,cond_true] at h
   unfold qG at h
   split at h
   ·rename_i cs hcs
    by_cases hb:off+len*k'<=cs.length
    ·simp only[hb,decide_true,cond_true] at h
     cases h
     cases hv with
     | rsl _ _ _ _ b cap hk0 hlc hbb _=>
      obtain⟨hcs,hno⟩:=yC hcs
      obtain⟨vs,t,fr,hh,_,hsz,hc⟩:=(R.boxes id b cs hbb hcs).1 hno
      have L:=vP hh hsz hc
      have hlc':(wI k' len (cs.drop off)).length=len:=xR k' len _
      have hok:∀c∈cs.drop off,c.isCell=true:=λc hc=>L.ok c (List.mem_of_mem_drop hc)
      have hfl:len*k'<=(cs.drop off).length:=by rw[List.length_drop];omega
      have hr:=run_loadCells (P:=X.P) w ⟨b,off,none⟩ (len*k') (λj=>vs.getD (off+j) undef) (λj hj=>by
       rw[wD,cell_of_row w b _ vs t fr hh]
       have:off+j<vs.size:=by omega
       simp[Array.getD,this])
      refine⟨by simp[Builtin.lenOf,hlc'],_,by simp only[Builtin.firstCells,hlc'];exact hr,?_,by simp[hlc'],zAj k' len _ hk0 hok hfl⟩
      rw[wS k' len _ hk0 hok hfl]
      refine⟨⟨by simp;omega,λj c v hj hv=>?_⟩,λc hc=>hok c (List.mem_of_mem_take hc)⟩
      have hj':j<len*k':=by
       have:=zJ hj
       simp at this;omega
      rw[List.getElem?_take_of_lt hj',List.getElem?_drop] at hj
      simp[hj'] at hv
      subst hv
      refine hc.at_ (off+j) c _ hj ?_
      rw[List.getElem?_take_of_lt (by omega)]
      have:off+j<vs.size:=by omega
      simp[Array.getD,this]
    ·simp[hb] at h
   ·cases h
  ·simp[hk] at h
 ·rename_i tg k' es
  by_cases hk:k'=k
  ·subst hk
   simp at h;subst h
   obtain⟨p,cap,rfl,arr,hr,hc,hs,hsz⟩:=zOo (X:=X) hv
   exact⟨by simp[Builtin.lenOf],arr,by simpa [Builtin.firstCells] using hr,hc,hs,hsz⟩
  ·simp[hk] at h
 ·cases h
  rw[qT hv]
  exact⟨by simp[Builtin.lenOf],#[],by simp[Builtin.firstCells],nothing,by simp,λd hd=>by cases hd⟩
 ·cases h
theorem yAe {c:D} {v:Value} (h:yE w S c v) (hc:c.isCell=true):v.oneCell'=true:=by
 cases h<;>first|rfl|assumption|cases hc
theorem zDk {cs:List D} {vs:List Value} (h:xN w S cs vs):∀v∈vs,v.oneCell'=true:=λv hv=>by
 obtain⟨j,hj⟩:=List.getElem?_of_mem hv
 have hlt:=zJ hj
 have hl:=h.len
 have hc:cs[j]?=some cs[j]:=List.getElem?_eq_getElem (by omega)
 exact yAe (h.at_ j _ v hc hj) (h.cell _ (List.getElem_mem _))
theorem yGb {P:Program} {m:Mem} {u k:Nat} {d:D} {xs:List D} (h:zJs P m u k d=some xs):(∃e',P.underlying u=some (.slice e'))\/P.underlying u=some .string:=by
 unfold zJs at h
 split at h
 ·rename_i k' hk
  obtain⟨e',hu,_⟩:=xC hk
  exact .inl ⟨e',zW hu⟩
 ·split at h
  ·cases hb:wA P u with
   |true=>exact .inr (zDm hb)
   |false=>rw[hb] at h;cases h
  ·cases h
theorem zEg (R:yI X B w S) {x:D} {u k:Nat} {xs:List D} (h:zJs X.P S.m u k x=some xs) {v:Value} (hv:yE w S x v) :
  (Builtin.lenOf v).run X.P w=.ok xs.length w/\∃arr:Array Value,(Builtin.firstCells k xs.length v).run X.P w=.ok arr w/\xN w S (zV xs) arr.toList/\arr.size=xs.length*k/\∀d∈xs,d.cells.length=k:=by
 unfold zJs at h
 split at h
 ·rename_i k' hk
  by_cases e:k'=k
  ·subst e
   simp only[decide_true,cond_true] at h
   exact qK R h hv
  ·simp[e] at h
 ·split at h
  ·rename_i s
   cases hb:(wA X.P u&&decide (k=1)) with
   |false=>rw[hb] at h;cases h
   | true=>
    rw[hb] at h
    cases h
    simp only[Bool.and_eq_true,decide_eq_true_eq] at hb
    obtain⟨_,rfl⟩:=hb
    rw[zBz hv]
    have hfl:zV (s.map yT)=s.map yT:=by
     clear hv
     induction s with
     |nil=>rfl
     |cons b r ih=>rw[List.map_cons,zV,ih];rfl
    refine⟨by simp[Builtin.lenOf,zKe],(s.map λ(b:UInt8)=>Value.int .u8 b.toNat).toArray,?_,?_,by simp,λd hd=>?_⟩
    ·have:((⟨s.toArray⟩:ByteArray).extract 0 (s.map yT).length)=⟨s.toArray⟩:=by
      rw[List.length_map,<-zKe s];exact ByteArray.extract_zero_size
     simp only[Builtin.firstCells,this,Sem.run_pure]
     simp
    ·rw[hfl]
     refine⟨⟨by simp,λj c v hc hv=>?_⟩,λc hc=>?_⟩
     ·simp only[List.getElem?_map,Option.map_eq_some_iff] at hc hv
      obtain⟨b,hb,rfl⟩:=hc
      obtain⟨b',hb',rfl⟩:=hv
      rw[hb] at hb';cases hb'
      exact .int _ _
     ·simp only[List.mem_map] at hc
      obtain⟨b,_,rfl⟩:=hc
      rfl
    ·obtain⟨b,_,rfl⟩:=List.mem_map.1 hd
     rfl
  ·cases h
theorem zBs {t u e k sLen sCap n:Nat} {base:Option Addr} {vx:Value} (hs:zI X.P t=some e) (hu:(∃e',X.P.underlying u=some (.slice e'))\/X.P.underlying u=some .string) (hk:yS X.P e=some k) (hb:yV X.P e=true)
  {old new:Array Value} (hold:(Builtin.firstCells k sLen (.slice base sLen sCap)).run X.P w.drew=.ok old w.drew) (hln:(Builtin.lenOf vx).run X.P w=.ok n w)
  (hnew:(Builtin.firstCells k n vx).run X.P w.drew=.ok new w.drew)
  (hso:old.size=sLen*k) (hsn:new.size=n*k) (hle:sLen+n<=16777216) (hgt:sCap<sLen+n) {zv:Value} (hz:(X.P.info? e).bind (·.zero)=some zv) (hzk:zv.cells.size=k) (ty:Nat) :
  ∃(cap:Nat) (vs:Array Value),(Builtin.append_ #[t,u] ty #[.slice base sLen sCap,vx]).run X.P w=.ok (.slice (some ⟨w.heap.size,0,none⟩) (sLen+n) cap) (w.drew.alloc (.cells vs e (0,0)))/\
   sLen+n<=cap/\vs.size=cap*k/\vs.toList.take ((sLen+n)*k)=old.toList++new.toList/\cap<=9223372036854775807:=by
 obtain⟨i,hi,hi1,hi2⟩:=zAk hb
 have hik:=zFp hi hk
 let q:Question:=.appendCap (sLen+n) sCap e
 let cap:=q.cut (w.tape w.drawn q)
 have hcap:sLen+n<=cap:=by show sLen+n<=sLen+n+_;omega
 let rest:=Builtin.zeroCells zv.cells (cap-(sLen+n))
 have hrest:rest.size=(cap-(sLen+n))*k:=by simp[rest,Builtin.zeroCells,hzk]
 refine⟨cap,old++new++rest,?_,hcap,?_,?_,Nat.le_trans (grownCap_le_maxLen w (sLen+n) sCap e (by unfold maxLen;omega)) (by unfold maxLen;omega)⟩
 ·have hnc:=zMi (sLen+n) sCap hgt
  have hbig:¬Builtin.nextslicecap (sLen+n) sCap*i.bytes>2 ^ 48:=by
   have:Builtin.nextslicecap (sLen+n) sCap*i.bytes<=(2*16777216+192)*4096:=Nat.mul_le_mul (by omega) hi2
   omega
  have hti:∀W:World,(typeInfo e).run X.P W=.ok i W:=λW=>by simp[typeInfo,hi]
  have hzz:∀W:World,(zeroValue e).run X.P W=.ok zv W:=λW=>vA hz W
  have hneed:¬(sLen+n<=sCap):=by omega
  have hneed2:¬(((sLen+n:Nat):Int)>IntKind.i64.max):=by show ¬_>(9223372036854775807:Int);omega
  unfold Builtin.append_
  have hch:(choose q).run X.P w=.ok cap w.drew:=by simp[choose,Sem.run,q,cap,Question.forced]
  rcases hu with⟨e',hu⟩|hu
  all_goals
  simp[zB (zW hs),zB hu,yJ hk,hln,hneed,hti]
  rw[if_neg (λh=>by omega),if_neg (by omega)]
  rw[if_neg (by simp[Question.forced])]
  simp only[hold,hnew,hzz,Result.andThen_ok,newRow,Sem.run_bind,run_newObj,Sem.run_pure,World.alloc_eq]
  congr 2
 ·simp[hso,hsn,hrest,Nat.add_mul,Nat.sub_mul]
  have:sLen*k+n*k<=cap*k:=by rw[<-Nat.add_mul];exact Nat.mul_le_mul_right _ hcap
  omega
 ·simp only[Array.toList_append]
  rw[List.take_append_of_le_length (by simp[hso,hsn,Nat.add_mul])]
  rw[List.take_of_length_le (by simp[hso,hsn,Nat.add_mul])]
theorem yEu {tg:Option Nat} {k b cap:Nat} {es:List D} {vs:Array Value} {t:TypeId} {fr:Nat×Nat} (h:yE w S (.slice tg k es) (.slice (some ⟨b,0,none⟩) es.length cap))
  (hh:w.heap[b]?=some (.cells vs t fr)):xN w S (zV es) (vs.toList.take (es.length*k))/\(∀d∈es,d.cells.length=k):=by
 generalize hv:Value.slice (some ⟨b,0,none⟩) es.length cap=v at h
 cases h with
 |slice0 _ _ p cap' h=>
  simp only[Value.slice.injEq,Option.some.injEq] at hv
  exact⟨⟨⟨by simp[zV],λj c v hc=>by simp[zV] at hc⟩,λc hc=>by simp[zV] at hc⟩,λd hd=>by cases hd⟩
 | slice _ _ _ b' off cap' vals hk hcap hbig hsz hcl hvis htag hcell hvv=>
  simp only[Value.slice.injEq,Option.some.injEq,Addr.mk.injEq] at hv
  obtain⟨⟨rfl,rfl,_⟩,_,rfl⟩:=hv
  have hfl:=yN es hsz
  have hcc:∀(j:Nat) (c:D),(zV es)[j]?=some c->vs[j]?=some (vals j):=λj c hj=>by
   have:=hcell j c hj
   rw[Nat.zero_add,cell_of_row w _ j vs t fr hh] at this
   exact this
  refine⟨⟨⟨?_,λj c v hc hv'=>?_⟩,hcl⟩,hsz⟩
  ·rw[hfl]
   rcases Nat.eq_zero_or_pos (es.length*k) with h0|h0
   ·rw[h0];simp
   ·have hl:=hcc (es.length*k-1) _ (List.getElem?_eq_getElem (by omega))
    have:es.length*k-1<vs.size:=by
     rcases Nat.lt_or_ge (es.length*k-1) vs.size with h|h
     ·exact h
     ·rw[Array.getElem?_eq_none h] at hl;cases hl
    simp;omega
  ·have hj:=zJ hc
   rw[List.getElem?_take_of_lt (by omega)] at hv'
   have:=hcc j c hc
   rw[<-Array.getElem?_toList,hv'] at this
   cases this
   exact hvv j c hc
theorem yDu {k:Nat} {es:List D} {v:Value} (h:yE w S (.slice (some 0) k es) v):∃p,v=.slice (some p) es.length es.length:=by
 cases h with
 |slice0 _ _ p cap h=>
  rcases h with h|⟨_,rfl⟩
  ·cases h
  ·exact⟨p,rfl⟩
 |slice _ _ _ b off cap vals hk hcap hbig hsz hcl hvis htag hcell hvv=>
  have:es.length=cap:=htag.1
  subst this
  exact⟨_,rfl⟩
theorem yIx (R:yI X B w S) {id k:Nat} {es:List D} {v:Value} (h:yE w S (.slice (some (id+1)) k es) v) (hm:S.m.toks[id]?=some es.length) :
  ∃(b cap:Nat) (vs:Array Value) (t:TypeId),v=.slice (some ⟨b,0,none⟩) es.length cap/\es.length<=cap/\S.tb[id]?=some (b,k)/\w.heap[b]?=some (.cells vs t (0,0))/\vs.size=cap*k:=by
 cases h with
 |slice0 _ _ p cap h=>rcases h with h|⟨h,_⟩<;>cases h
 |slice _ _ _ b off cap vals hk hcap hbig hsz hcl hvis htag hcell hvv=>
  obtain⟨rfl,mk,b',h1,h2,h3,h4⟩:=htag
  rw[hm] at h1;cases h1
  obtain⟨rfl,t,hsh⟩:=h4 rfl
  obtain⟨_,vs,t',hh,_⟩:=R.toks id _ k _ h2 hm
  refine⟨_,cap,vs,t',rfl,hcap,h2,hh,?_⟩
  unfold World.shape? at hsh
  rw[hh] at hsh
  simp only[Option.some.injEq,Prod.mk.injEq] at hsh
  exact hsh.2
theorem xK {P:Program} (g o:Nat) (t:TypeId) (fr:Nat×Nat):∀(vs:List Value) (i:Nat) (cur:Array Value) (w:World),w.heap[g]?=some (.cells cur t fr)->zEk cur fr->o+i+vs.length<=cur.size->(∀v∈vs,v.oneCell'=true)->
  (storeCells ⟨g,o,none⟩ vs i).run P w=.ok () (w.setRow g (cur.toList.take (o+i)++vs++cur.toList.drop (o+i+vs.length)).toArray)
 |[],i,cur,w,hg,_,_,_=>by
  simp only[storeCells,List.append_nil,List.length_nil,Nat.add_zero,List.take_append_drop,Array.toArray_toList]
  rw[setRow_self w g cur t fr hg]
  rfl
 | v::rest,i,cur,w,hg,ho,hl,h1=>by
  have hi:o+i<cur.size:=by simp at hl;omega
  have hadd:(⟨g,o,none⟩:Addr).add i=⟨g,o+i,none⟩:=by unfold Addr.add;split<;>simp_all
  have hcell:w.cell? ⟨g,o+i,none⟩=some cur[o+i]:=by simp[World.cell?,hg,hi]
  have hfro:w.frozen? ⟨g,o+i,none⟩=false:=by
   have:=ho (o+i) hi
   obtain⟨lo,hi'⟩:=fr
   simp only[World.frozen?,hg,Bool.and_eq_false_iff,decide_eq_false_iff_not]
   simp only at this
   omega
  have hst:(store ((⟨g,o,none⟩:Addr).add i) v).run P w=.ok () (w.setRow g (cur.setIfInBounds (o+i) v)):=by
   rw[hadd,run_store P w _ v _ (h1 v (by simp)),hcell]
   simp[hfro,setCell_eq_setRow w g (o+i) cur t fr v hg]
  have ih:=xK (P:=P) g o t fr rest (i+1) (cur.setIfInBounds (o+i) v) (w.setRow g (cur.setIfInBounds (o+i) v)) (setRow_heap w g cur _ t _ hg) (λj hj=>ho j (by simpa using hj)) (by simp at hl ⊢;omega) (λx hx=>h1 x (by simp[hx]))
  simp only[storeCells,Sem.run_bind,hst,Result.andThen_ok,ih,setRow_setRow]
  congr 3
  have e:=list_seg_step cur.toList (o+i) v rest (by simp at hl ⊢;omega)
  simpa [Array.toList_setIfInBounds,Nat.add_assoc] using e
theorem yGn (R:yI X B w S) (A:vK N w S st lb a) {args:Array Operand} {tys:Array Nat} {d:D} {m':Mem} {dst:Option Nat} {ty:Nat} {pos:String} {af:Array Edge} {gd:Option (Nat×Bool)} {bx:Bool}
  (h:wO X bx S.m st (.call ⟨.builtin .append,args,tys⟩)=some (d,m')) :
  ∃v w' S',(execOp a.eval ⟨dst,.call ⟨.builtin .append,args,tys⟩,ty,pos,af,gd⟩).run X.P w=.ok (.value v) w'/\S'.m=m'/\zCe X B N w S w' S'/\yE w' S' d v:=by
 simp only[wO] at h
 split at h
 ·rename_i sO xO t u hargs htys
  have ha:args=#[sO,xO]:=by apply Array.ext';simpa using hargs
  have ht:tys=#[t,u]:=by apply Array.ext';simpa using htys
  subst ha;subst ht
  split at h
  ·rename_i e k' hs hsk
   split at h
   ·rename_i xs es hb hz hx hss
    cases hc:decide (es.length+xs.length<=16777216) with
    |false=>rw[hc] at h;cases h
    | true =>
     rw[hc] at h
     simp only[cond_true] at h
     simp only[decide_eq_true_eq] at hc
     have hle:=hc
     have hu:=yGb hx
     have hk:yS X.P e=some k':=by
      obtain⟨e2,h1,h2⟩:=xC hsk
      rw[hs] at h1;cases h1;exact h2
     have hvx:=xP R A xO
     have hvs:=xP R A sO
     obtain⟨i,hi,hi1,hi2⟩:=zAk hb
     have hik:=zFp hi hk
     have k0:0<k':=by omega
     have xF:∀v w',(Builtin.append_ #[t,u] ty #[a.eval sO,a.eval xO]).run X.P w=.ok v w'->
       (execOp a.eval ⟨dst,.call ⟨.builtin .append,#[sO,xO],#[t,u]⟩,ty,pos,af,gd⟩).run X.P w=.ok (.value v) w':=λv w' hr=>by
      simp[execOp,resolve,invoke,builtin,hr]
     obtain⟨hln,arr,hfx,hcx,hsx,hkx⟩:=zEg R hx hvx
     have fits:∀base sLen sCap,a.eval sO=.slice base sLen sCap->sLen+xs.length<=sCap->∀w',(match base with|some p=>storeCells (p.add (sLen*k')) arr.toList|none=>pure ()).run X.P w=.ok () w'->
       (Builtin.append_ #[t,u] ty #[a.eval sO,a.eval xO]).run X.P w=.ok (.slice base (sLen+xs.length) sCap) w':=λbase sLen sCap he hfit w' hst=>by
      unfold Builtin.append_
      rcases hu with⟨e',hu⟩|hu
      all_goals
       simp[zB (zW hs),zB hu,yJ hk,hln,he,hfit,hfx]
       cases base with
       |none=>simp at hst;simp[hst]
       |some p=>simp at hst;simp[hst]
     obtain⟨zv,hzv,hzk⟩:∃zv:Value,(X.P.info? e).bind (·.zero)=some zv/\zv.cells.size=k':=by
      unfold wK at hz
      split at hz
      ·rename_i z hz'
       simp only[Bool.and_eq_true,decide_eq_true_eq] at hz
       obtain⟨zv,h1,h2⟩:=uQ hz'
       have:=(vH (qC (w:=w) (S:=S) h2) hz.1).len
       exact⟨zv,h1,by simp at this;omega⟩
      ·cases hz
     have ED:Ext N w S w.drew S:=Ext.ofHeap rfl rfl rfl rfl
     have RD:yI X B w.drew S:=R.ofHeap rfl rfl rfl rfl
     obtain⟨_,arr1,hfx1,hcx1,hsx1,_⟩:=zEg RD hx (hvx.mono ED R.tidy)
     have newRowCase:∀base,a.eval sO=.slice base es.length es.length->(∃arr0:Array Value,(Builtin.firstCells k' es.length (.slice base es.length es.length)).run X.P w.drew=.ok arr0 w.drew/\xN w.drew S (zV es) arr0.toList/\arr0.size=es.length*k'/\∀d∈es,d.cells.length=k')->0<xs.length->
       ∃v w' S',(execOp a.eval ⟨dst,.call ⟨.builtin .append,#[sO,xO],#[t,u]⟩,ty,pos,af,gd⟩).run X.P w=.ok (.value v) w'/\S'.m={ S.m with toks:=S.m.toks++[(es++xs).length] }/\zCe X B N w S w' S'/\
        yE w' S' (.slice (some (S.m.toks.length+1)) k' (es++xs)) v:=λbase he ⟨arr0,hold,hc0,hs0,hk0⟩ hpos=>by
      obtain⟨cap,vs,hr,hcap,hsz,htk,hc63⟩:=zBs hs hu hk hb hold hln hfx1 hs0 hsx1 hle (by omega) hzv hzk ty
      rw[<-he] at hr
      have hle2:(es++xs).length<=140737488355328:=by rw[List.length_append];omega
      have hcap2:(es++xs).length<=cap:=by rw[List.length_append];exact hcap
      obtain⟨st1,hv1⟩:=yZp (N:=N) RD e k0 hle2 hcap2 hsz (λd hd=>(List.mem_append.1 hd).elim (hk0 d) (hkx d)) (by rw[List.length_append,htk,xD];exact xS hc0 hcx1)
      refine⟨_,_,_,xF _ _ hr,?_,⟨st1.rel,ED.trans R.tidy st1.ext,λb hb=>st1.priv b hb,st1.muK⟩,by rw[<-List.length_append];exact hv1⟩
      simp[Sh.addTok]
     cases bx with
     | true =>
      simp only at h
      have newBoxCase:∀base,a.eval sO=.slice base es.length es.length->(∃arr0:Array Value,(Builtin.firstCells k' es.length (.slice base es.length es.length)).run X.P w.drew=.ok arr0 w.drew/\xN w.drew S (zV es) arr0.toList/\arr0.size=es.length*k'/\∀d∈es,d.cells.length=k')->0<xs.length->
        ∃v w' S',(execOp a.eval ⟨dst,.call ⟨.builtin .append,#[sO,xO],#[t,u]⟩,ty,pos,af,gd⟩).run X.P w=.ok (.value v) w'/\S'.m={ S.m with boxes:=S.m.boxes++[zV (es++xs)] }/\zCe X B N w S w' S'/\
         yE w' S' (.rsl S.m.boxes.length 0 (es++xs).length k') v:=λbase he ⟨arr0,hold,hc0,hs0,hk0⟩ hpos=>by
       obtain⟨cap,vs,hr,hcap,hsz,htk,hc63⟩:=zBs hs hu hk hb hold hln hfx1 hs0 hsx1 hle (by omega) hzv hzk ty
       rw[<-he] at hr
       have hkk:∀d∈es++xs,d.cells.length=k':=λd hd=>(List.mem_append.1 hd).elim (hk0 d) (hkx d)
       have hfl:=yN (es++xs) hkk
       have hcc:xN w.drew S (zV (es++xs)) (vs.toList.take (zV (es++xs)).length):=by
        rw[hfl,List.length_append,htk,xD];exact xS hc0 hcx1
       have hlen:(zV (es++xs)).length<=vs.size:=by
        rw[hfl,hsz,List.length_append];exact Nat.mul_le_mul_right _ hcap
       obtain⟨st1,hv1⟩:=zKh (N:=N) RD e k0 (show (es++xs).length<=cap/\(es++xs).length<=140737488355328/\cap<=9223372036854775807 by rw[List.length_append];exact⟨hcap,by omega,hc63⟩) (xW vs) hlen (by rw[hsz];exact Nat.le_refl _) hcc
       exact⟨_,_,_,xF _ _ hr,by simp[Sh.addBox],⟨st1.rel,ED.trans R.tidy st1.ext,λb hb=>st1.priv b hb,st1.muK⟩,by rw[<-List.length_append];exact hv1⟩
      cases xs with
      | nil =>
       simp only[vX] at h
       have harr:arr=#[]:=by
        apply Array.ext'
        have:arr.toList.length=0:=by simpa using hsx
        rw[List.length_eq_zero_iff.1 this]
       subst harr
       cases hd:ev X st sO<;>rw[hd] at hss hvs h<;>first|(simp[zY] at hss;done)|(cases h;done)|skip
       ·cases h
        obtain⟨p,cap,hp,hcap⟩:=hasSlice' hvs
        have hr:=fits (some p) _ cap hp (by simpa using hcap) w (by simp[storeCells])
        refine⟨_,w,S,xF _ _ hr,rfl,⟨R,Ext.refl N w S,λ_ _=>rfl,λ_ h=>h⟩,?_⟩
        rw[List.length_nil,Nat.add_zero,<-hp];exact hvs
       ·cases h
        have hr:=fits none 0 0 (qT hvs) (by simp) w (by simp)
        refine⟨_,w,S,xF _ _ hr,rfl,⟨R,Ext.refl N w S,λ_ _=>rfl,λ_ h=>h⟩,?_⟩
        exact .nil
       ·cases h
        rename_i id off len k2
        generalize hvx':a.eval sO=vx at hvs
        cases hvs with
        | rsl _ _ _ _ b cap hk0 hl hbb hsh=>
         have hes:es.length=len:=by
          simp only[zY] at hss
          cases hkk:decide (k2=k') with
          |false=>rw[hkk] at hss;cases hss
          | true=>
           rw[hkk] at hss
           simp only[cond_true,qG] at hss
           split at hss
           ·revert hss
            rename_i cs _
            cases decide (off+len*k'<=cs.length)<;>intro hss<;>cases hss
            exact xR _ _ _
           ·cases hss
         have hr:=fits (some ⟨b,off,none⟩) len cap hvx' (by simpa using hl.1) w (by simp[storeCells])
         exact⟨_,w,S,xF _ _ hr,rfl,⟨R,Ext.refl N w S,λ_ _=>rfl,λ_ h=>h⟩,.rsl id off len k2 b cap hk0 hl hbb hsh⟩
      | cons x0 xr=>
       simp only[vX] at h
       cases hd:ev X st sO<;>rw[hd] at h hss hvs<;>first|(cases h;done)|skip
       ·rename_i tg k2 es2
        cases tg with
        |none=>cases h
        |some id1=>
        cases id1 with
        |succ id=>cases h
        | zero=>
         cases h
         have hk2:k2=k'/\es2=es:=by
          simp only[zY] at hss
          by_cases hkk:k2=k'
          ·simp[hkk] at hss;exact⟨hkk,hss⟩
          ·simp[hkk] at hss
         obtain⟨rfl,rfl⟩:=hk2
         obtain⟨p,hp⟩:=yDu hvs
         obtain⟨p',cap',hp',arr0,hl0,hc0,hs0,hk0⟩:=zOo (X:=X) (hvs.mono ED R.tidy)
         rw[hp] at hp'
         simp only[Value.slice.injEq,Option.some.injEq] at hp'
         obtain⟨rfl,_,rfl⟩:=hp'
         exact newBoxCase (some p) hp ⟨arr0,by simpa [Builtin.firstCells] using hl0,hc0,hs0,hk0⟩ (by simp)
       ·cases h
        have hes:es=[]:=by simpa [zY] using hss.symm
        subst hes
        have:=newBoxCase none (qT hvs) ⟨#[],by simp[Builtin.firstCells],⟨⟨rfl,λj c v hc=>by simp[zV] at hc⟩,λc hc=>by simp[zV] at hc⟩,by simp,λd hd=>by cases hd⟩ (by simp)
        simpa using this
       ·rename_i id off len k2
        simp only at h
        split at h
        ·rename_i cs hcs
         by_cases hcd:k2=k'/\off=0/\cs.length=len*k2/\0<len
         ·obtain⟨rfl,rfl,hcl,hpos⟩:=hcd
          simp[hcl,hpos] at h
          obtain⟨rfl,rfl⟩:=h
          obtain⟨hln0,arr0,hf0,hc0,hs0,hk0⟩:=qK RD hss (hvs.mono ED R.tidy)
          have hes:es.length=len:=by
           simp only[zY,decide_true,cond_true,qG] at hss
           rw[hcs] at hss
           simp only[Nat.zero_add,hcl,Nat.le_refl,decide_true,cond_true,Option.some.injEq] at hss
           rw[<-hss,xR]
          have hkk:∀d∈es++x0::xr,d.cells.length=k2:=λd hd=>(List.mem_append.1 hd).elim (hk0 d) (hkx d)
          have hfl:=yN (es++x0::xr) hkk
          generalize hvx':a.eval sO=vx at hvs hf0
          cases hvs with
          | rsl _ _ _ _ b cap hkp hl hbb hsh=>
           obtain⟨hcs',hno⟩:=yC hcs
           obtain⟨vs,t0,fr,hh,ho,hsz,hcc⟩:=(R.boxes id b cs hbb hcs').1 hno
           have hne:cs≠[]:=λe=>by
            rw[e] at hcl
            have:0<len*k2:=Nat.mul_pos hpos k0
            simp at hcl;omega
           obtain⟨t1,sz1,hs1,hs2⟩:=hsh
           have hcap:cap*k2<=vs.size:=by
            unfold World.shape? at hs1
            rw[hh] at hs1
            simp only[Option.some.injEq,Prod.mk.injEq] at hs1
            omega
           have EK:Ext N w S w (S.killBox id):=Ext.kill id
           have RK:=R.kill id (λc h=>by rw[hcs'] at h;cases h;exact hno)
           have hlb:(S.killBox id).m.boxes.length=S.m.boxes.length:=by simp[Sh.killBox]
           by_cases hfit:es.length+(x0::xr).length<=cap
           ·have hpl:es.length*k2+(x0::xr).length*k2<=vs.size:=by rw[<-Nat.add_mul];exact Nat.le_trans (Nat.mul_le_mul_right _ hfit) hcap
            have hst:=xK (P:=X.P) b (es.length*k2) t0 fr arr.toList 0 vs w hh ho (by simp[hsx] at hpl ⊢;omega) (zDk hcx)
            have hr:=fits (some ⟨b,0,none⟩) es.length cap (by rw[hvx',hes]) hfit _ (by
             show (storeCells ((⟨b,0,none⟩:Addr).add (es.length*k2)) arr.toList).run X.P w=_
             rw[wD,Nat.zero_add];exact hst)
            simp only[Nat.add_zero] at hr
            have hsz':(vs.toList.take (es.length*k2)++arr.toList++vs.toList.drop (es.length*k2+arr.toList.length)).toArray.size=vs.size:=by
             simp[hsx] at hpl ⊢;omega
            have hdead:∀(i:Nat) (c:List D),(S.killBox id).bb[i]?=some b->(S.killBox id).m.boxes[i]?=some c->c=[]:=λi c h1 h2=>by
             rcases zFl h2 with⟨_,e,_⟩|⟨e,h2⟩
             ·exact e
             ·by_cases hc:c=[]
              ·exact hc
              ·exact absurd (R.bbInj i id b c cs h1 hbb h2 hcs' hc hne) e
            have hcold:xN w S (zV es) (vs.toList.take (es.length*k2)):=by
             simp only[zY,decide_true,cond_true,qG] at hss
             rw[hcs] at hss
             simp only[Nat.zero_add,hcl,Nat.le_refl,decide_true,cond_true,Option.some.injEq,List.drop_zero] at hss
             have hok:∀c∈cs,c.isCell=true:=hcc.cell
             rw[<-hss,wS k2 len cs k0 hok (by omega),List.take_of_length_le (by omega),xR,<-hcl]
             exact hcc
            have e1:(vs.toList.take (es.length*k2)++arr.toList++vs.toList.drop (es.length*k2+arr.toList.length)).toArray.toList.take (zV (es++x0::xr)).length=vs.toList.take (es.length*k2)++arr.toList:=by
             have hl1:(vs.toList.take (es.length*k2)++arr.toList).length=(zV (es++x0::xr)).length:=by
              have l1:(vs.toList.take (es.length*k2)).length=es.length*k2:=List.length_take_of_le (by rw[Array.length_toList];exact Nat.le_trans (Nat.le_add_right _ _) hpl)
              have l2:arr.toList.length=(x0::xr).length*k2:=by rw[Array.length_toList];exact hsx
              rw[List.length_append,l1,l2,hfl,List.length_append,Nat.add_mul]
             show List.take _ (_++_)=_
             rw[<-hl1,List.take_left']
             rfl
            have hnew:xN w (S.killBox id) (zV (es++x0::xr)) ((vs.toList.take (es.length*k2)++arr.toList++vs.toList.drop (es.length*k2+arr.toList.length)).toArray.toList.take (zV (es++x0::xr)).length):=by
             rw[e1,xD]
             exact(xS hcold hcx).mono EK R.tidy
            have hlen:(zV (es++x0::xr)).length<=(vs.toList.take (es.length*k2)++arr.toList++vs.toList.drop (es.length*k2+arr.toList.length)).toArray.size:=by
             rw[hsz',hfl,List.length_append,Nat.add_mul];exact hpl
            have hbm:b∈(S.killBox id).bb:=List.mem_of_getElem? hbb
            have ho':zEk (vs.toList.take (es.length*k2)++arr.toList++vs.toList.drop (es.length*k2+arr.toList.length)).toArray fr:=λj hj=>ho j (by rw[hsz'] at hj;exact hj)
            have R':=RK.alias hbm hdead hh hsz' ho' hlen hnew
            have E':=EK.trans R.tidy (Ext.alias (N:=N) RK hbm _ (zV (es++x0::xr)) hh hsz')
            refine⟨_,_,_,xF _ _ hr,?_,⟨R',E',λc hc=>setRow_other w b c _ (λx=>by subst x;exact R.bbMu _ (List.mem_of_getElem? hbb) hc),λ_ h=>h⟩,?_⟩
            ·simp[Sh.addBox,Sh.killBox]
            ·rw[<-show (es++x0::xr).length=es.length+(x0::xr).length from List.length_append]
             rw[show es.length+(xr.length+1)=(es++x0::xr).length by simp]
             refine .rsl _ 0 _ k2 b cap k0 ⟨?_,?_,hl.2.2⟩ ?_ ⟨t0,vs.size,?_,by omega⟩
             ·rw[List.length_append];exact hfit
             ·rw[List.length_append];omega
             ·rw[<-hlb,<-RK.bbLen];simp[Sh.addBox]
             ·unfold World.shape?;rw[setRow_heap w b vs _ _ _ hh];simp only[hsz']
           ·have hold:(Builtin.firstCells k2 es.length (.slice (some ⟨b,0,none⟩) es.length cap)).run X.P w.drew=.ok arr0 w.drew:=by rw[<-hes] at hf0;exact hf0
            obtain⟨cap2,vs2,hr,hcap2,hsz2,htk,hc63⟩:=zBs hs hu hk hb hold hln hfx1 hs0 hsx1 hle (by omega) hzv hzk ty
            rw[show (Value.slice (some ⟨b,0,none⟩) es.length cap)=a.eval sO by rw[hvx',hes]] at hr
            have RKD:=RD.kill id (λc h=>by rw[hcs'] at h;cases h;exact hno)
            have EKD:Ext N w.drew S w.drew (S.killBox id):=Ext.kill id
            have hcc2:xN w.drew (S.killBox id) (zV (es++x0::xr)) (vs2.toList.take (zV (es++x0::xr)).length):=by
             rw[hfl,List.length_append,htk,xD];exact(xS hc0 hcx1).mono EKD RD.tidy
            have hlen:(zV (es++x0::xr)).length<=vs2.size:=by
             rw[hfl,hsz2,List.length_append];exact Nat.mul_le_mul_right _ hcap2
            obtain⟨st1,hv1⟩:=zKh (N:=N) RKD e k0 (show (es++x0::xr).length<=cap2/\(es++x0::xr).length<=140737488355328/\cap2<=9223372036854775807 by rw[List.length_append];exact⟨hcap2,by omega,hc63⟩) (xW vs2) hlen (by rw[hsz2];exact Nat.le_refl _) hcc2
            refine⟨_,_,_,xF _ _ hr,by simp[Sh.addBox,Sh.killBox],⟨st1.rel,ED.trans R.tidy (EKD.trans RD.tidy st1.ext),λb hb=>st1.priv b hb,st1.muK⟩,?_⟩
            rw[show es.length+(xr.length+1)=(es++x0::xr).length by simp,<-List.length_append,<-hlb];exact hv1
         ·have:(decide (k2=k')&&(decide (off=0)&&(decide (cs.length=len*k')&&decide (0<len))))=false:=by
           simp only[Bool.and_eq_false_iff,decide_eq_false_iff_not]
           by_cases h1:k2=k'
           ·subst h1
            by_cases h2:off=0
            ·by_cases h3:cs.length=len*k2
             ·exact .inr (.inr (.inr λh4=>hcd ⟨rfl,h2,h3,h4⟩))
             ·exact .inr (.inr (.inl h3))
            ·exact .inr (.inl h2)
           ·exact .inl h1
          rw[this] at h;cases h
        ·cases h
     |false=>
     simp only at h
     cases xs with
     | nil=>
      simp only[zZ] at h
      cases h
      have harr:arr=#[]:=by
       apply Array.ext'
       have:arr.toList.length=0:=by simpa using hsx
       rw[List.length_eq_zero_iff.1 this]
      subst harr
      cases hd:ev X st sO<;>rw[hd] at hss hvs<;>first|(simp[zY] at hss;done)|skip
      ·obtain⟨p,cap,hp,hcap⟩:=hasSlice' hvs
       have hr:=fits (some p) _ cap hp (by simpa using hcap) w (by simp[storeCells])
       refine⟨_,w,S,xF _ _ hr,rfl,⟨R,Ext.refl N w S,λ_ _=>rfl,λ_ h=>h⟩,?_⟩
       rw[List.length_nil,Nat.add_zero,<-hp];exact hvs
      ·have hr:=fits none 0 0 (qT hvs) (by simp) w (by simp)
       refine⟨_,w,S,xF _ _ hr,rfl,⟨R,Ext.refl N w S,λ_ _=>rfl,λ_ h=>h⟩,?_⟩
       exact .nil
      ·rename_i id off len k2
       generalize hvx':a.eval sO=vx at hvs
       cases hvs with
       |rsl _ _ _ _ b cap hk0 hl hbb hsh=>
        have hr:=fits (some ⟨b,off,none⟩) len cap hvx' (by simpa using hl.1) w (by simp[storeCells])
        exact⟨_,w,S,xF _ _ hr,rfl,⟨R,Ext.refl N w S,λ_ _=>rfl,λ_ h=>h⟩,.rsl id off len k2 b cap hk0 hl hbb hsh⟩
     | cons x0 xr=>
      simp only[zZ] at h
      cases hd:ev X st sO<;>rw[hd] at h hss hvs<;>first|(cases h;done)|skip
      ·rename_i tg k2 es2
       have hk2:k2=k'/\es2=es:=by
        simp only[zY] at hss
        by_cases hkk:k2=k'
        ·simp[hkk] at hss;exact⟨hkk,hss⟩
        ·simp[hkk] at hss
       obtain⟨rfl,rfl⟩:=hk2
       cases tg with
       |none=>cases h
       |some id1=>
       cases id1 with
       |zero=>
        simp only[decide_true,cond_true] at h
        cases h
        obtain⟨p,hp⟩:=yDu hvs
        obtain⟨p',cap',hp',arr0,hl0,hc0,hs0,hk0⟩:=zOo (X:=X) (hvs.mono ED R.tidy)
        rw[hp] at hp'
        simp only[Value.slice.injEq,Option.some.injEq] at hp'
        obtain⟨rfl,_,rfl⟩:=hp'
        exact newRowCase (some p) hp ⟨arr0,by simpa [Builtin.firstCells] using hl0,hc0,hs0,hk0⟩ (by simp)
       | succ id=>
        simp only at h
        split at h
        ·rename_i n hn
         by_cases hb2:n=es2.length
         ·subst hb2
          simp at h
          obtain⟨rfl,rfl⟩:=h
          obtain⟨b,cap,vs,tt,hp,hcap,htb,hh,hsz⟩:=yIx R hvs hn
          have hrow:=yEu (hp▸hvs) hh
          by_cases hfit:es2.length+(x0::xr).length<=cap
          ·have hpl:es2.length*k2+(x0::xr).length*k2<=vs.size:=by rw[hsz,<-Nat.add_mul];exact Nat.mul_le_mul_right _ hfit
           have hst:=run_storeCells_at X.P b (es2.length*k2) tt arr.toList 0 vs w hh (by simp[hsx] at hpl ⊢;omega) (zDk hcx)
           have hr:=fits (some ⟨b,0,none⟩) es2.length cap hp hfit _ (by
            show (storeCells ((⟨b,0,none⟩:Addr).add (es2.length*k2)) arr.toList).run X.P w=_
            rw[wD,Nat.zero_add];exact hst)
           simp only[Nat.add_zero] at hr
           have hsz':(vs.toList.take (es2.length*k2)++arr.toList++vs.toList.drop (es2.length*k2+arr.toList.length)).toArray.size=vs.size:=by
            simp[hsx] at hpl ⊢;omega
           have hpre:∀j,j<es2.length*k2->(vs.toList.take (es2.length*k2)++arr.toList++vs.toList.drop (es2.length*k2+arr.toList.length)).toArray[j]?=vs[j]?:=λj hj=>by
            have hjv:j<vs.size:=by omega
            rw[List.getElem?_toArray,List.append_assoc,List.getElem?_append_left (by simp;omega),List.getElem?_take_of_lt hj];simp
           have hmk:es2.length<=(es2++x0::xr).length:=by simp
           have hfit':(es2++x0::xr).length*k2<=(vs.toList.take (es2.length*k2)++arr.toList++vs.toList.drop (es2.length*k2+arr.toList.length)).toArray.size:=by
            rw[hsz',List.length_append,Nat.add_mul];exact hpl
           have E:=Ext.growIn (N:=N) R htb hn hmk hh hsz' hpre
           have R':=R.growIn htb hn hmk hh hsz' hpre hfit'
           refine⟨_,_,_,xF _ _ hr,by simp[Sh.growTok],⟨R',E,λc hc=>setRow_other w b c _ (λx=>by subst x;exact R.tbMu id _ k2 htb hc),λ_ h=>h⟩,?_⟩
           have hkk:∀d∈es2++x0::xr,d.cells.length=k2:=λd hd=>(List.mem_append.1 hd).elim (hrow.2 d) (hkx d)
           have:=zTv (w:=w.setRow b (vs.toList.take (es2.length*k2)++arr.toList++vs.toList.drop (es2.length*k2+arr.toList.length)).toArray) (S:=S.growTok id b k2 (es2++x0::xr).length) (id:=id) (k:=k2) (b:=b) (cap:=cap) (es:=es2++x0::xr) k0
            (by simp at hle ⊢;omega) (by simp at hfit ⊢;omega) hkk (setRow_heap w b _ _ _ _ hh) ?_ (R.tbMu id b k2 htb) (R.tbBb id b k2 htb) ?_ ?_ ?_ (by rw[hsz',hsz]) ⟨_,Nat.le_refl _,R.okTok id b k2 htb _⟩
           ·rw[<-show (es2++x0::xr).length=es2.length+(x0::xr).length from List.length_append];exact this
           ·rw[xD]
            have e1:(vs.toList.take (es2.length*k2)++arr.toList++vs.toList.drop (es2.length*k2+arr.toList.length)).toArray.toList.take ((es2++x0::xr).length*k2)=vs.toList.take (es2.length*k2)++arr.toList:=by
             have hl1:(vs.toList.take (es2.length*k2)++arr.toList).length=(es2++x0::xr).length*k2:=by
              have l1:(vs.toList.take (es2.length*k2)).length=es2.length*k2:=List.length_take_of_le (by rw[Array.length_toList];exact Nat.le_trans (Nat.le_add_right _ _) hpl)
              have l2:arr.toList.length=(x0::xr).length*k2:=by rw[Array.length_toList];exact hsx
              rw[List.length_append,l1,l2,List.length_append,Nat.add_mul]
             show List.take _ (_++_)=_
             rw[<-hl1,List.take_left']
             rfl
            rw[e1]
            exact(xS hrow.1 hcx).mono E R.tidy
           ·simp only[Sh.growTok];rw[List.getElem?_set_self (zJ htb)]
           ·simp only[Sh.growTok];rw[List.getElem?_set_self (zJ hn)]
           ·intro j k3 h3
            simp only[Sh.growTok] at h3
            by_cases ej:id=j
            ·exact ej.symm
            ·rw[List.getElem?_set_ne ej] at h3
             exact R.tbInj j id b k3 k2 h3 htb
          ·have hvs1:=hvs.mono ED R.tidy
           rw[hp] at hvs1
           obtain⟨p',cap',hp',arr0,hl0,hc0,hs0,hk0⟩:=zOo (X:=X) hvs1
           simp only[Value.slice.injEq,Option.some.injEq] at hp'
           obtain⟨rfl,_,rfl⟩:=hp'
           have hold:(Builtin.firstCells k2 es2.length (.slice (some ⟨b,0,none⟩) es2.length cap)).run X.P w.drew=.ok arr0 w.drew:=by simpa [Builtin.firstCells] using hl0
           obtain⟨cap2,vs2,hr,hcap2,hsz2,htk,hc63⟩:=zBs hs hu hk hb hold hln hfx1 hs0 hsx1 hle (by omega) hzv hzk ty
           rw[<-hp] at hr
           have hmk:es2.length<(es2++x0::xr).length:=by simp
           have hfit2:(es2++x0::xr).length*k2<=vs2.size:=by rw[hsz2,List.length_append];exact Nat.mul_le_mul_right _ hcap2
           have E:=Ext.growNew (N:=N) RD htb hn hmk (.cells vs2 e (0,0))
           have R':=RD.growNew htb hn hmk e hfit2
           refine⟨_,_,_,xF _ _ hr,by simp[Sh.growTok],⟨R',ED.trans R.tidy E,λc hc=>zU w.drew _ (R.mu c hc),λ_ h=>h⟩,?_⟩
           have hkk:∀d∈es2++x0::xr,d.cells.length=k2:=λd hd=>(List.mem_append.1 hd).elim (hrow.2 d) (hkx d)
           have hsize:w.drew.heap.size=w.heap.size:=rfl
           have:=zTv (w:=w.drew.alloc (.cells vs2 e (0,0))) (S:=S.growTok id w.heap.size k2 (es2++x0::xr).length) (id:=id) (k:=k2) (b:=w.heap.size) (cap:=cap2) (es:=es2++x0::xr) k0
            (by simp at hle ⊢;omega) (by rw[List.length_append];exact hcap2) hkk (wJ w.drew _) ?_ (λh=>by have:=R.mu _ h;omega) (λh=>by have:=R.bbLt _ h;omega) ?_ ?_ ?_ hsz2 ⟨_,Nat.le_refl _,R.okNew _ _ (Nat.le_refl _)⟩
           ·rw[<-show (es2++x0::xr).length=es2.length+(x0::xr).length from List.length_append];exact this
           ·rw[xD,show (es2++x0::xr).length*k2=(es2.length+(x0::xr).length)*k2 by rw[List.length_append],htk]
            exact(xS hc0 hcx1).mono E RD.tidy
           ·simp only[Sh.growTok];rw[List.getElem?_set_self (zJ htb)]
           ·simp only[Sh.growTok];rw[List.getElem?_set_self (zJ hn)]
           ·intro j k3 h3
            simp only[Sh.growTok] at h3
            by_cases ej:id=j
            ·exact ej.symm
            ·rw[List.getElem?_set_ne ej] at h3
             have:=R.tbLt j _ k3 h3;omega
         ·simp[hb2] at h
        ·cases h
      ·cases h
       have hes:es=[]:=by simpa [zY] using hss.symm
       subst hes
       have:=newRowCase none (qT hvs) ⟨#[],by simp[Builtin.firstCells],⟨⟨rfl,λj c v hc=>by simp[zV] at hc⟩,λc hc=>by simp[zV] at hc⟩,by simp,λd hd=>by cases hd⟩ (by simp)
       simpa using this
   ·cases h
  ·cases h
 ·cases h
end
section
variable {X:Ctx} {B N:Nat} {w w':World} {S S':Sh} {st:St} {lb:Nat->Nat} {a:Act}
theorem zLm {α:Type} (L B:List α) (off nn n:Nat) (hB:B.length=nn) (h1:off+nn<=n) (h2:n<=L.length) :
  (L.take off++B++L.drop (off+nn)).take n=(L.take n).take off++B++(L.take n).drop (off+nn):=by
 have l2:(L.take off++B).length=off+nn:=by rw[List.length_append,List.length_take,hB,Nat.min_eq_left (by omega)]
 rw[List.take_append (l₁:=L.take off++B),List.take_of_length_le (by rw[l2];exact h1),l2,List.take_take,Nat.min_eq_left (by omega),List.drop_take]
theorem setRow_len' :∀(ds cs:List D) (o:Nat),(setRow cs o ds).length=cs.length
 |[],_,_=>rfl
 |d::r,cs,o=>by simp only[setRow];rw[setRow_len' r];simp
theorem zGk :∀(ds:List D) (cs:List D) (off:Nat),off+ds.length<=cs.length->setRow cs off ds=cs.take off++ds++cs.drop (off+ds.length)
 |[],cs,off,_=>by simp[setRow]
 | d::r,cs,off,h=>by
  have ih:=zGk r (cs.set off d) (off+1) (by simp at h ⊢;omega)
  simp only[setRow,ih]
  have hlt:off<cs.length:=by simp at h;omega
  have e1:(cs.set off d).take (off+1)=cs.take off++[d]:=by
   rw[List.take_succ_eq_append_getElem (by simpa using hlt)]
   simp[List.take_set_of_le]
  have e2:(cs.set off d).drop (off+1+r.length)=cs.drop (off+(r.length+1)):=by
   rw[List.drop_set_of_lt (by omega)];congr 1;omega
  rw[e1,e2];simp
theorem zEq {cs ds:List D} {vs:Array Value} {us:List Value} (h:xN w S cs vs.toList) (hd:xN w S ds us) {off:Nat} (hfit:off+ds.length<=cs.length) :
  xN w S (setRow cs off ds) (vs.toList.take off++us++vs.toList.drop (off+us.length)):=by
 rw[zGk ds cs off hfit,<-hd.len]
 refine xS (xS ?_ hd) ?_
 ·have:=zCv h 0 off
  simpa using this
 ·have hl:=h.len
  have:=zCv h (off+ds.length) cs.length
  rw[List.take_of_length_le (by simp),List.take_of_length_le (by rw[List.length_drop,<-hl];omega)] at this
  exact this
theorem yRt (R:yI X B w S) {id b off:Nat} {cs ds:List D} {us:List Value} (hb:S.bb[id]?=some b) (hcs:uN S.m id=some cs) (hfit:off+ds.length<=cs.length) (hd:xN w S ds us) :
  ∃w',(storeCells ⟨b,off,none⟩ us).run X.P w=.ok () w'/\zCe X B N w S w' (S.setBox id (setRow cs off ds)):=by
 obtain⟨hcs,hno⟩:=yC hcs
 obtain⟨vs0,ty0,fr,hh,ho,hlen,hc⟩:=(R.boxes id b cs hb hcs).1 hno
 have hul:us.length=ds.length:=hd.len.symm
 have hspl:=zEq (vs:=(vs0.toList.take cs.length).toArray) (by simpa using hc) hd (off:=off) hfit
 have hcl:(setRow cs off ds).length=cs.length:=setRow_len' _ _ _
 have hnew:(vs0.toList.take off++us++vs0.toList.drop (off+us.length)).length=vs0.size:=by
  simp only[List.length_append,List.length_take,List.length_drop,Array.length_toList];omega
 have hnil:cs≠[]\/(vs0.toList.take off++us++vs0.toList.drop (off+us.length)).toArray=vs0:=by
  by_cases e:cs=[]
  ·refine .inr ?_
   subst e
   have hf0:off+ds.length<=0:=hfit
   have h0:off=0/\us=[]:=⟨by omega,List.length_eq_zero_iff.1 (by omega)⟩
   rw[h0.1,h0.2];simp
  ·exact .inl e
 have hr:=xK (P:=X.P) b off ty0 fr us 0 vs0 w hh ho (by omega) (zDk hd)
 simp only[Nat.add_zero] at hr
 have R':=R.setBox hb (vs:=(vs0.toList.take off++us++vs0.toList.drop (off+us.length)).toArray) hcs hh (λj hj=>ho j (by rw[List.size_toArray,hnew] at hj;exact hj)) (by rw[hcl,List.size_toArray,hnew];exact hlen) (by rw[List.size_toArray,hnew]) hcl hnil (by
  rw[hcl]
  have e:(vs0.toList.take off++us++vs0.toList.drop (off+us.length)).toArray.toList.take cs.length=(vs0.toList.take cs.length).toArray.toList.take off++us++(vs0.toList.take cs.length).toArray.toList.drop (off+us.length):=
   zLm _ _ off us.length cs.length rfl (by omega) (by rw[Array.length_toList];omega)
  rw[e]
  exact hspl)
 exact⟨_,hr,R',Ext.setBox R hb _ _ hh (by rw[List.size_toArray,hnew]),λc hc'=>setRow_other w b c _ (λe=>by subst e;exact R.bbMu _ (List.mem_of_getElem? hb) hc'),λ_ h=>h⟩
theorem yFu (R:yI X B w S) {x:D} {k:Nat} {xs:List D} (h:zY S.m k x=some xs) {v:Value} (hv:yE w S x v) {n:Nat} (hn:n<=xs.length) :
  ∃arr:Array Value,(Builtin.firstCells k n v).run X.P w=.ok arr w/\xN w S (zV (xs.take n)) arr.toList:=by
 obtain⟨hl,arr,hr,hc,hs,hk⟩:=qK R h hv
 have hfl:zV (xs.take n)=(zV xs).take (n*k):=by
  clear hl hr hc hs h hv
  induction xs generalizing n with
  |nil=>simp[zV]
  | cons d r ih=>
   cases n with
   |zero=>simp[zV]
   |succ n=>
    have hd:=hk d (List.mem_cons_self ..)
    simp only[List.take_succ_cons,zV]
    rw[ih (by simpa using hn) (λe he=>hk e (List.mem_cons_of_mem _ he)),List.take_append,List.take_of_length_le (l:=d.cells) (by rw[hd,Nat.succ_mul];omega),show (n+1)*k-d.cells.length=n*k by rw[hd,Nat.succ_mul];omega]
 have main:(∃b off c,v=.slice (some ⟨b,off,none⟩) xs.length c/\∀j,j<xs.length*k->∃u,w.cell? ⟨b,off+j,none⟩=some u/\∀c,(zV xs)[j]?=some c->yE w S c u)\/xs=[]:=by
  unfold zY at h
  split at h
  ·rename_i id off len k'
   by_cases hkk:k'=k
   ·subst hkk
    simp only[decide_true,cond_true] at h
    unfold qG at h
    split at h
    ·rename_i cs hcs
     by_cases hb:off+len*k'<=cs.length
     ·simp only[hb,decide_true,cond_true] at h
      cases h
      cases hv with
      | rsl _ _ _ _ b cap hk0 hlc hbb _=>
       obtain⟨hcs,hno⟩:=yC hcs
       obtain⟨vs,t,fr,hh,_,hsz,hc'⟩:=(R.boxes id b cs hbb hcs).1 hno
       have L:=vP hh hsz hc'
       have hok:∀c∈cs.drop off,c.isCell=true:=λc hc=>L.ok c (List.mem_of_mem_drop hc)
       have hfl:len*k'<=(cs.drop off).length:=by rw[List.length_drop];omega
       rw[xR]
       refine .inl ⟨b,off,cap,rfl,λj hj=>?_⟩
       refine⟨vs.getD (off+j) undef,?_,λc hc=>?_⟩
       ·rw[cell_of_row w b _ vs t fr hh]
        have:off+j<vs.size:=by omega
        simp[Array.getD,this]
       ·rw[wS k' len _ hk0 hok hfl,List.getElem?_take_of_lt hj,List.getElem?_drop] at hc
        refine hc'.at_ (off+j) c _ hc ?_
        rw[List.getElem?_take_of_lt (by omega)]
        have:off+j<vs.size:=by omega
        simp[Array.getD,this]
     ·simp[hb] at h
    ·cases h
   ·simp[hkk] at h
  ·rename_i tg k' es
   by_cases hkk:k'=k
   ·subst hkk
    simp at h;subst h
    cases hv with
    |slice0=>exact .inr rfl
    |slice _ _ _ b off cap vals hk0 hcap hbig hsz hcl hvis htag hcell hvv=>
     refine .inl ⟨b,off,cap,rfl,λj hj=>?_⟩
     have hlf:j<(zV es).length:=by rw[yN es hk];exact hj
     have hg:=List.getElem?_eq_getElem hlf
     exact⟨vals j,hcell j _ hg,λc hc=>hvv j c hc⟩
   ·simp[hkk] at h
  ·cases h;exact .inr rfl
  ·cases h
 rcases main with⟨b,off,c,rfl,hcell⟩|h0
 ·have hle:n*k<=xs.length*k:=Nat.mul_le_mul_right _ hn
  let f:Nat->Value:=λj=>if hj:j<xs.length*k then(hcell j hj).choose else undef
  have hf:∀j (hj:j<xs.length*k),w.cell? ⟨b,off+j,none⟩=some (f j)/\∀c,(zV xs)[j]?=some c->yE w S c (f j):=λj hj=>by
   have:=(hcell j hj).choose_spec
   simp only[f,hj,dif_pos];exact this
  have hrun:=run_loadCells (P:=X.P) w ⟨b,off,none⟩ (n*k) f (λj hj=>by rw[wD];exact(hf j (by omega)).1)
  refine⟨_,by simpa [Builtin.firstCells] using hrun,?_⟩
  rw[hfl]
  refine⟨⟨by simp[hc.len,hs,Nat.min_eq_left hle],λj c u hj hu=>?_⟩,λc hcm=>hc.cell c (List.mem_of_mem_take hcm)⟩
  have hjl:j<n*k:=by
   have:=zJ hj
   simp at this;omega
  rw[List.getElem?_take_of_lt hjl] at hj
  simp[hjl] at hu
  subst hu
  exact(hf j (by omega)).2 c hj
 ·subst h0
  have:n=0:=by simpa using hn
  subst this
  exact⟨arr,hr,hc⟩
theorem yRb {d:D} {n:Nat} (h:yUu d=some n) {v:Value} (hv:yE w S d v):∃p c,v=.slice p n c:=by
 unfold yUu at h
 split at h
 ·cases h
  cases hv with
  |slice0 _ _ a cap=>exact⟨_,_,rfl⟩
  |slice _ _ _ b off cap=>exact⟨_,_,rfl⟩
 ·cases h
  obtain⟨q,cap,n,rfl⟩:∃q c n,v=.slice q n c:=by cases hv with|rsl _ _ _ _ b cap=>exact⟨_,_,_,rfl⟩
  cases hv with|rsl=>exact⟨_,_,rfl⟩
 ·cases h
  cases hv with|nil=>exact⟨_,_,rfl⟩
 ·cases h
theorem zCe.refl (R:yI X B w S):zCe X B N w S w S:=⟨R,Ext.refl N w S,λ_ _=>rfl,λ_ h=>h⟩
theorem zYb (R:yI X B w S) {k n:Nat} {d:D} {xs:List D} {m':Mem} (hl:yUu d=some n) (h:yBy S.m k d xs=some m') {v:Value} (hv:yE w S d v) {us:List Value} (hu:xN w S (zV xs) us) (hk:∀x∈xs,x.cells.length=k) :
  ∃p c w' S',v=.slice p n c/\(∀a,p=some a->(storeCells a us).run X.P w=.ok () w')/\(p=none->w'=w)/\S'.m=m'/\zCe X B N w S w' S':=by
 unfold yBy at h
 split at h
 ·cases h
  have hus:us=[]:=List.length_eq_zero_iff.1 (by rw[<-hu.len];rfl)
  subst hus
  obtain⟨p,c,rfl⟩:=yRb hl hv
  exact⟨p,c,w,S,rfl,λ_ _=>rfl,λ_=>rfl,rfl,zCe.refl R⟩
 ·rename_i x r id off len k'
  split at h
  ·rename_i cs hcs
   cases hc:(decide (k'=k)&&(decide ((x::r).length<=len)&&decide (off+len*k<=cs.length))) with
   |false=>rw[hc] at h;cases h
   | true=>
    rw[hc] at h
    simp only[cond_true] at h
    simp only[Bool.and_eq_true,decide_eq_true_eq] at hc
    obtain⟨rfl,hlen,hfit⟩:=hc
    cases h
    have hl:some len=some n:=hl
    have hl:len=n:=by injection hl
    subst hl
    cases hv with
    |rsl _ _ _ _ b cap hk0 hlc hbb hsh=>
     have hfl:(zV (x::r)).length=(x::r).length*k':=yN _ hk
     have:(x::r).length*k'<=len*k':=Nat.mul_le_mul_right _ hlen
     obtain⟨w',hr,T⟩:=yRt (N:=N) R hbb hcs (ds:=zV (x::r)) (off:=off) (by omega) hu
     exact⟨_,_,w',_,rfl,λa ha=>by cases ha;exact hr,λh=>(by cases h),rfl,T⟩
  ·cases h
 ·cases h
theorem ySa (R:yI X B w S) (A:vK N w S st lb a) {args:Array Operand} {tys:Array Nat} {d:D} {m':Mem} {dst:Option Nat} {ty:Nat} {pos:String} {af:Array Edge} {gd:Option (Nat×Bool)} {bx:Bool}
  (h:wO X bx S.m st (.call ⟨.builtin .copy,args,tys⟩)=some (d,m')) :
  ∃v w' S',(execOp a.eval ⟨dst,.call ⟨.builtin .copy,args,tys⟩,ty,pos,af,gd⟩).run X.P w=.ok (.value v) w'/\S'.m=m'/\zCe X B N w S w' S'/\yE w' S' d v:=by
 simp only[wO] at h
 split at h
 ·rename_i dO sO t u hargs htys
  have ha:args=#[dO,sO]:=by apply Array.ext';simpa using hargs
  have ht:tys=#[t,u]:=by apply Array.ext';simpa using htys
  subst ha;subst ht
  unfold yCa at h
  split at h
  ·rename_i k n hk hn
   split at h
   ·rename_i es hes
    split at h
    ·rename_i m1 hf
     cases h
     obtain⟨e,he,hz⟩:=xC hk
     have hvd:=xP R A dO
     have hvs:=xP R A sO
     obtain⟨hlen,_,_,_,_,hke⟩:=qK R hes hvs
     obtain⟨arr,hr,hc⟩:=yFu R hes hvs (n:=min es.length n) (Nat.min_le_left _ _)
     have htk:es.take (min es.length n)=es.take n:=by
      rcases Nat.le_total es.length n with h|h
      ·rw[Nat.min_eq_left h,List.take_of_length_le (Nat.le_refl _),List.take_of_length_le h]
      ·rw[Nat.min_eq_right h]
     rw[htk] at hc
     obtain⟨p,c,w',S',hpv,hst,hno,hm,T⟩:=zYb (N:=N) R hn hf hvd hc (λx hx=>hke x (List.mem_of_mem_take hx))
     refine⟨goInt ((min es.length n:Nat):Int),w',S',?_,hm,T,?_⟩
     ·have hmin:Nat.min es.length n=min es.length n:=rfl
      cases p with
      |none=>
       rw[hno rfl]
       simp[execOp,resolve,invoke,builtin,Builtin.copy_,zB (zW he),hpv,hlen,yJ hz,hmin,hr]
      |some q=>
       simp[execOp,resolve,invoke,builtin,Builtin.copy_,zB (zW he),hpv,hlen,yJ hz,hmin,hr,hst q rfl]
     ·exact .int _ _
    ·cases h
   ·cases h
  ·cases h
 ·cases h
theorem yLo (R:yI X B w S) (A:vK N w S st lb a) {args:Array Operand} {tys:Array Nat} {d:D} {m':Mem} {dst:Option Nat} {ty:Nat} {pos:String} {af:Array Edge} {gd:Option (Nat×Bool)} {bx:Bool}
  (h:wO X bx S.m st (.call ⟨.builtin .clear,args,tys⟩)=some (d,m')) :
  ∃v w' S',(execOp a.eval ⟨dst,.call ⟨.builtin .clear,args,tys⟩,ty,pos,af,gd⟩).run X.P w=.ok (.value v) w'/\S'.m=m'/\zCe X B N w S w' S'/\yE w' S' d v:=by
 simp only[wO] at h
 split at h
 ·rename_i dO t hargs htys
  have ha:args=#[dO]:=by apply Array.ext';simpa using hargs
  have ht:tys=#[t]:=by apply Array.ext';simpa using htys
  subst ha;subst ht
  unfold yCp at h
  split at h
  ·rename_i e k n he hk hn
   split at h
   ·rename_i z hz hzo
    split at h
    ·rename_i m1 hf
     cases h
     unfold wK at hzo
     rw[hz] at hzo
     simp only[Bool.and_eq_true,decide_eq_true_eq] at hzo
     obtain⟨zv,h1,h2⟩:=uQ hz
     have hzv:=qC (w:=w) (S:=S) h2
     have hvd:=xP R A dO
     have hrow:=zOw hzv hzo.1 hzo.2 n
     have hs:zv.cells.size=k:=by have:=(vH hzv hzo.1).len;simp at this;omega
     have hrow':xN w S (zV (List.replicate n z)) (Builtin.zeroCells zv.cells n).toList:=by
      unfold Builtin.zeroCells;rw[hs] at hrow ⊢;exact hrow
     obtain⟨p,c,w',S',hpv,hst,hno,hm,T⟩:=zYb (N:=N) R hn hf hvd hrow' (λx hx=>by rw[List.eq_of_mem_replicate hx];exact hzo.2)
     refine⟨.tuple #[],w',S',?_,hm,T,.tuple [] #[] rfl (λj c v hc=>by simp at hc)⟩
     cases p with
     |none=>
      rw[hno rfl]
      simp[execOp,resolve,invoke,builtin,Builtin.clear_,zB (zW he),hpv]
     | some q=>
      cases n with
      | zero=>
       have hst:=hst q rfl
       have e0:(Builtin.zeroCells zv.cells 0).toList=[]:=by simp[Builtin.zeroCells]
       rw[e0] at hst
       have:w'=w:=by
        have:(Result.ok () w':Result Unit)=.ok () w:=hst.symm.trans rfl
        cases this;rfl
       rw[this]
       simp[execOp,resolve,invoke,builtin,Builtin.clear_,zB (zW he),hpv]
      |succ n=>
       have hst:=hst q rfl
       simp[execOp,resolve,invoke,builtin,Builtin.clear_,zB (zW he),hpv,vA h1,hst]
    ·cases h
   ·cases h
  ·cases h
 ·cases h
end
def zBc (P : Program) (f : Nat) : Bool := match P.funcs[f]? with | some fn => fn.body.isSome && !(fn.name == "runtime.NumGoroutine") | none => false
def qJ (X:Ctx) (f:Nat) (m:Mem) (ds:List D) (Q:D->Mem->Prop):Prop:=
 zBc X.P f=true/\∀(B:Nat) (w:World) (S:Sh) (args:Array Value),yI X B w S->S.m=m->HasL w S ds args.toList->
  Calls X.P f args w λe w'=>∃v S' r,e=.returned v/\Q r S'.m/\yI X B w' S'/\Ext w.heap.size w S w' S'/\yE w' S' r v
theorem qJ.mono {X:Ctx} {f:Nat} {m:Mem} {ds:List D} {Q Q':D->Mem->Prop} (h:qJ X f m ds Q) (hq:∀r m',Q r m'->Q' r m'):qJ X f m ds Q':=
 ⟨h.1,λB w S args R hm ha=>(h.2 B w S args R hm ha).mono λ_ _ ⟨v,S',r,h1,h2,h3⟩=>⟨v,S',r,h1,hq _ _ h2,h3⟩⟩
def FR (rd:Option Nat):Fence:={ Fence.wide with round:=rd }
def zHt (X:Ctx) (id:Nat) (m:Mem) (ds:List D) (Q:D->Mem->Prop):Prop:=
 ∀ (B:Nat) (w:World) (S:Sh) (args:Array Value),yI X B w S->S.m=m->HasL w S ds args.toList->
  ∃ b r,S.bb[id]?=some b/\w.heap[b]?=some (.loop r)/\args.size=r.params.size/\
   ∀rd,RoundIn (FR rd) 0 X.P b r.fn ((r.params.zip args).foldl (λtmps (t,a)=>tmps.setIfInBounds t a) r.tmps) r.assign r.body w λe w'=>
    ∃v S' r,e=.returned v/\Q r S'.m/\yI X B w' S'/\Ext w.heap.size w S w' S'/\yE w' S' r v
def zMj (X:Ctx) (g:Nat) (m:Mem) (ds:List D) (Q:D->Mem->Prop):Prop:=match Nat.ble qQ g with
 |true=>zHt X (g-qQ) m ds Q
 |false=>qJ X (g % 100000) m ds Q
structure zAc (X:Ctx) (C:wC):Prop where
 pf:C.pf=X.pf
 run:∀(g:Nat) (m:Mem) (ds:List D) (Q:D->Mem->Prop),C.run g m ds Q->zMj X g m ds Q
 pv:∀(g:Nat) (ds:List D) (v:D),C.pf g=true->C.pv g ds=some v->∀m,qJ X (g % 100000) m ds λr m'=>r=v/\m'=m
theorem yGp (v:Nat):yMr v % 100000=0/\yMr v<=400000:=by
 unfold yMr;split<;>decide
theorem zTy (F:Fi) (dst:Option Nat) {g:Nat} (h:decide (g<100000)=true):ix F dst g % 100000=g/\ix F dst g<1000000:=by
 have h:=of_decide_eq_true h
 unfold ix
 split
 ·split
  ·rename_i v _
   have:=yGp v
   omega
  ·omega
 ·omega
theorem xAb (F:Fi) (dst:Option Nat) {g:Nat} (h:decide (g<100000)=true):ix F dst g % 100000=g:=(zTy F dst h).1
theorem yQa {X:Ctx} {F:Fi} {dst:Option Nat} {g:Nat} {m:Mem} {ds:List D} {Q:D->Mem->Prop} (h:decide (g<100000)=true) (hr:zMj X (ix F dst g) m ds Q):qJ X g m ds Q:=by
 have h1:=zTy F dst h
 unfold zMj at hr
 rw[show Nat.ble qQ (ix F dst g)=false from by
  cases hb:Nat.ble qQ (ix F dst g) with
  |false=>rfl
  |true=>have:=Nat.le_of_ble_eq_true hb;unfold qQ at this;omega,h1.1] at hr
 exact hr
theorem zZv {X:Ctx} {F:Fi} {dst:Option Nat} {g:Nat} {m:Mem} {ds:List D} {Q:D->Mem->Prop} (h:decide (g<100000)=true) (hr:qJ X g m ds Q):zMj X (ix F dst g) m ds Q:=by
 have h1:=zTy F dst h
 unfold zMj
 rw[show Nat.ble qQ (ix F dst g)=false from by
  cases hb:Nat.ble qQ (ix F dst g) with
  |false=>rfl
  |true=>have:=Nat.le_of_ble_eq_true hb;unfold qQ at this;omega,h1.1]
 exact hr
theorem zHt.mono {X:Ctx} {id:Nat} {m:Mem} {ds:List D} {Q Q':D->Mem->Prop} (h:zHt X id m ds Q) (hq:∀r m',Q r m'->Q' r m'):zHt X id m ds Q':=λB w S args R hm ha=>
 let ⟨b,r,h1,h2,h3,h4⟩:=h B w S args R hm ha
 ⟨b,r,h1,h2,h3,λrd=>(h4 rd).mono λ_ _ ⟨v,S',r,k1,k2,k3⟩=>⟨v,S',r,k1,hq _ _ k2,k3⟩⟩
theorem zMj.mono {X:Ctx} {g:Nat} {m:Mem} {ds:List D} {Q Q':D->Mem->Prop} (h:zMj X g m ds Q) (hq:∀r m',Q r m'->Q' r m'):zMj X g m ds Q':=by
 unfold zMj at h ⊢
 cases hb:Nat.ble qQ g with
 |true=>rw[hb] at h;exact zHt.mono h hq
 |false=>rw[hb] at h;exact qJ.mono h hq
theorem yQb {X:Ctx} {g:Nat} {m:Mem} {ds:List D} {Q:D->Mem->Prop} (h:decide (g<100000)=true) (hr:zMj X g m ds Q):qJ X g m ds Q:=by
 have h:=of_decide_eq_true h
 unfold zMj at hr
 rw[show Nat.ble qQ g=false from by
  cases hb:Nat.ble qQ g with
  |false=>rfl
  |true=>have:=Nat.le_of_ble_eq_true hb;unfold qQ at this;omega,Nat.mod_eq_of_lt h] at hr
 exact hr
theorem yJm {X:Ctx} {id:Nat} {m:Mem} {ds:List D} {Q:D->Mem->Prop} (hr:zMj X (qQ+id) m ds Q):zHt X id m ds Q:=by
 unfold zMj at hr
 rw[show Nat.ble qQ (qQ+id)=true from Nat.ble_eq_true_of_le (Nat.le_add_right _ _)] at hr
 simp only at hr
 rw[Nat.add_sub_cancel_left] at hr
 exact hr
def zCh (X:Ctx) (B N n:Nat) (w0:World) (S0:Sh) (K:St->Prop) (a:Act) (w:World):Prop:=
 ∃st S lb,K st/\yI X B w S/\vK N w S st lb a/\Ext N w0 S0 w S/\n<=a.tmps.size
section
variable {X:Ctx} {F:Fi} {B N n:Nat} {w0 w w':World} {S0 S S':Sh} {st:St} {lb:Nat->Nat} {a:Act}
theorem zBn (tmps:Array Value) (x:Nat) (v:Value) (y:Nat) (hx:x<tmps.size):(tmps.setIfInBounds x v).getD y undef=if y=x then v else tmps.getD y undef:=by
 by_cases e:y=x
 ·subst e;simp[Array.getD,hx]
 ·simp only[Array.getD_eq_getD_getElem?,e,if_false]
  rw[Array.getElem?_setIfInBounds_ne (λh=>e h.symm)]
theorem yP {α:Type} (f:Nat->α) (x:Nat) (v:α):upd f x v x=v:=by simp[upd]
theorem yA {α:Type} (f:Nat->α) {x y:Nat} (v:α) (h:y≠x):upd f x v y=f y:=by simp[upd,h]
theorem vK.put (A:vK N w S st lb a) {x:Nat} (hx:x<a.tmps.size) {d:D} {v:Value} (hv:yE w S d v):vK N w S (st.put (some x) d) lb (a.put (some x) v) where
 m:=A.m
 defers:=A.defers
 slots:=λy=>by
  show yE w S (upd st.sl x d y) ((a.tmps.setIfInBounds x v).getD y undef)
  rw[zBn _ _ _ _ hx]
  by_cases e:y=x
  ·subst e;rw[yP,if_pos rfl];exact hv
  ·rw[yA _ _ e,if_neg e];exact A.slots y
 regs:=λy k o h=>by
  have hy:y≠x/\st.lp y=some (k,o):=by
   simp only[St.put,zJl] at h
   cases hl:st.lp x with
   |none=>
    rw[hl] at h
    have h2:st.lp y=some (k,o):=h
    refine⟨λe=>?_,h2⟩
    subst e;rw[hl] at h2;cases h2
   |some q=>
    rw[hl] at h
    simp only at h
    by_cases e:y=x
    ·subst e;rw[yP] at h;cases h
    ·rw[yA _ _ e] at h;exact⟨e,h⟩
  obtain⟨h1,h2⟩:=A.regs y k o hy.2
  refine⟨?_,h2⟩
  show (a.tmps.setIfInBounds x v).getD y undef=_
  rw[zBn _ _ _ _ hx,if_neg hy.1];exact h1
 boxes:=A.boxes
 inj:=A.inj
theorem vK.putL (A:vK N w S st lb a) {x k o:Nat} (hx:x<a.tmps.size) (hk:(st.bx k).isSome=true):vK N w S (st.putL x k o) lb (a.put (some x) (.pointer (some ⟨lb k,o,none⟩))) where
 m:=A.m
 defers:=A.defers
 slots:=λy=>by
  show yE w S (upd st.sl x .undef y) ((a.tmps.setIfInBounds x _).getD y undef)
  rw[zBn _ _ _ _ hx]
  by_cases e:y=x
  ·subst e;rw[yP,if_pos rfl];exact .undef _
  ·rw[yA _ _ e,if_neg e];exact A.slots y
 regs:=λy k' o' h=>by
  show (a.tmps.setIfInBounds x _).getD y undef=_/\_
  rw[zBn _ _ _ _ hx]
  simp only[St.putL] at h
  by_cases e:y=x
  ·subst e;rw[yP] at h;cases h;rw[if_pos rfl];exact⟨rfl,hk⟩
  ·rw[yA _ _ e] at h;rw[if_neg e];exact A.regs y k' o' h
 boxes:=A.boxes
 inj:=A.inj
theorem vK.step (A:vK N w S st lb a) (hT:Tidy w S) (T:zCe X B N w S w' S'):vK N w' S' (st.setM S'.m) lb a where
 m:=rfl
 defers:=A.defers.to λb _ h=>⟨T.muK b h,T.priv b h⟩
 slots:=λx=>(A.slots x).mono T.ext hT
 regs:=A.regs
 boxes:=λk cs h=>by
  obtain⟨h1,h2,vs,t,h3,h4⟩:=A.boxes k cs h
  exact⟨h1,T.muK _ h2,vs,t,by rw[T.priv _ h2];exact h3,h4.mono T.ext hT⟩
 inj:=A.inj
theorem vK.newBox (R:yI X B w S) (A:vK N w S st lb a) {x:Nat} (hx:x<a.tmps.size) (hN:N<=w.heap.size) {cs:List D} {vs:Array Value} (t:TypeId) (hc:xN w S cs vs.toList) :
  vK N (w.alloc (.cells vs t (0,0))) (S.addMu w.heap.size) (st.newBox x cs) (λk=>if k=x then w.heap.size else lb k) (a.put (some x) (.pointer (some ⟨w.heap.size,0,none⟩))):=by
 have E:=Ext.allocMu (N:=N) R (.cells vs t (0,0))
 have lbne:∀k,(st.bx k).isSome=true->lb k<w.heap.size:=λk hk=>by
  obtain⟨c,hc⟩:=Option.isSome_iff_exists.1 hk
  exact R.mu _ (A.boxes k c hc).2.1
 exact {
  m:=A.m
  defers:=A.defers.to λb _ h=>⟨.inr h,zU w _ (R.mu b h)⟩
  slots:=λy=>by
   show yE _ _ (upd st.sl x .undef y) ((a.tmps.setIfInBounds x _).getD y undef)
   rw[zBn _ _ _ _ hx]
   by_cases e:y=x
   ·subst e;rw[yP,if_pos rfl];exact .undef _
   ·rw[yA _ _ e,if_neg e];exact(A.slots y).mono E R.tidy
  regs :=λy k o h=>by
   show (a.tmps.setIfInBounds x _).getD y undef=_/\(upd st.bx x (some cs) k).isSome=true
   rw[zBn _ _ _ _ hx]
   simp only[St.newBox] at h
   by_cases e:y=x
   ·subst e;rw[yP] at h;cases h
    rw[if_pos rfl,yP];simp
   ·rw [yA _ _ e] at h;rw[if_neg e]
    have hk:k≠x/\st.lp y=some (k,o):=by
     unfold zNa at h
     cases hb:st.bx x with
     |none=>
      rw[hb] at h
      refine⟨λek=>?_,h⟩
      subst ek
      have:=(A.regs y k o h).2
      rw[hb] at this;cases this
     | some c=>
      rw[hb] at h
      simp only[zGz,zEo] at h
      cases hl:st.lp y with
      |none=>rw[hl] at h;cases h
      |some q=>
       obtain⟨k',o'⟩:=q
       rw[hl] at h
       simp only at h
       by_cases ek:k'=x
       ·rw[if_pos ek] at h;cases h
       ·rw[if_neg ek] at h;cases h;exact⟨ek,rfl⟩
    obtain⟨h1,h2⟩:=A.regs y k o hk.2
    rw[if_neg hk.1,yA _ _ hk.1]
    exact⟨h1,h2⟩
  boxes:=λk c h=>by
   show N<=(if k=x then w.heap.size else lb k)/\_
   simp only[St.newBox] at h
   by_cases e:k=x
   ·subst e;rw[yP] at h;cases h
    simp only[if_true]
    exact⟨hN,.inl rfl,vs,t,wJ w _,hc.mono E R.tidy⟩
   ·rw[yA _ _ e] at h
    simp only[e,if_false]
    obtain⟨h1,h2,us,t',h3,h4⟩:=A.boxes k c h
    exact⟨h1,.inr h2,us,t',by rw[zU w _ (R.mu _ h2)];exact h3,h4.mono E R.tidy⟩
  inj:=λk k' h h' he=>by
   simp only[St.newBox] at h h'
   by_cases e:k=x<;>by_cases e':k'=x
   ·omega
   ·rw[yA _ _ e'] at h'
    simp only[e,e',if_true,if_false] at he
    have:=lbne k' h';omega
   ·rw[yA _ _ e] at h
    simp only[e,e',if_true,if_false] at he
    have:=lbne k h;omega
   ·rw[yA _ _ e] at h;rw[yA _ _ e'] at h'
    simp only[e,e',if_false] at he
    exact A.inj k k' h h' he }
theorem vK.setBox (R:yI X B w S) (A:vK N w S st lb a) {k:Nat} {cs old:List D} {vs vs0:Array Value} {t:TypeId} (hk:st.bx k=some old) (h0:w.heap[lb k]?=some (.cells vs0 t (0,0))) (hc:xN w S cs vs.toList) :
  yI X B (w.setRow (lb k) vs) S/\Ext N w S (w.setRow (lb k) vs) S/\vK N (w.setRow (lb k) vs) S ⟨st.sl,st.lp,upd st.bx k (some cs),st.m⟩ lb a:=by
 obtain⟨hN,hmu,_⟩:=A.boxes k old hk
 have E:=Ext.setMu (N:=N) R hmu hN vs
 refine⟨R.setMu hmu vs,E,?_⟩
 have some_of:∀j,(upd st.bx k (some cs) j).isSome=true->(st.bx j).isSome=true:=λj h=>by
  by_cases e:j=k
  ·subst e;rw[hk];rfl
  ·rw[yA _ _ e] at h;exact h
 exact{
  m:=A.m
  defers:=A.defers.to λb hd h=>⟨h,setRow_other w _ b vs (λe=>by subst e;rw[h0] at hd;cases hd)⟩
  slots:=λx=>(A.slots x).mono E R.tidy
  regs:=λy j o h=>by
   obtain⟨h1,h2⟩:=A.regs y j o h
   refine⟨h1,?_⟩
   by_cases e:j=k
   ·subst e;show (upd st.bx j (some cs) j).isSome=true;rw[yP];rfl
   ·show (upd st.bx k (some cs) j).isSome=true;rw[yA _ _ e];exact h2
  boxes:=λj c h=>by
   have h:upd st.bx k (some cs) j=some c:=h
   by_cases e:j=k
   ·subst e;rw[yP] at h;cases h
    exact⟨hN,hmu,vs,t,setRow_heap w _ vs0 vs t _ h0,hc.mono E R.tidy⟩
   ·rw[yA _ _ e] at h
    obtain⟨h1,h2,us,t',h3,h4⟩:=A.boxes j c h
    have hne:lb j≠lb k:=λx=>e (A.inj j k (by rw[h];rfl) (by rw[hk];rfl) x)
    exact⟨h1,h2,us,t',by rw[setRow_other w _ _ vs hne];exact h3,h4.mono E R.tidy⟩
  inj:=λj j' h h'=>A.inj j j' (some_of j h) (some_of j' h') }
theorem zSp {P:Program} {t nn b off:Nat} {v:Value} {vs0:Array Value} {ty:TypeId} {fr:Nat×Nat} (hn:yS P t=some nn) (hv:v.cells.size=nn) (h1:∀u∈v.cells.toList,u.oneCell'=true)
  (hh:w.heap[b]?=some (.cells vs0 ty fr)) (ho:zEk vs0 fr) (hfit:off+nn<=vs0.size) :
  (storeVar t ⟨b,off,none⟩ v).run P w=.ok () (w.setRow b (vs0.toList.take off++v.cells.toList++vs0.toList.drop (off+nn)).toArray):=by
 have:=xK (P:=P) b off ty fr v.cells.toList 0 vs0 w hh ho (by simp;omega) h1
 unfold storeVar
 simp only[Sem.run_bind,yJ hn,Result.andThen_ok,hv,ne_eq,not_true_eq_false,if_false]
 rw[this]
 simp[hv]
end
theorem yEc {rd:Option Nat} {n:Nat} {P:Program} {f:FuncId} {args:Array Value} {w:World} {R:Ending->World->Prop} (h:Calls P f args w R):CallsIn (FR rd) n P f args w R:=
 (callsIn_wide (n:=n)).2 h
section
variable {rd:Option Nat}
variable {X:Ctx} {F:Fi} {C:wC} {B N n:Nat} {w0 w w':World} {S0 S S':Sh} {st:St} {lb:Nat->Nat} {a:Act}
theorem zIu (a:Act) (dst:Option Nat) (v:Value):(a.put dst v).tmps.size=a.tmps.size:=by
 cases dst<;>simp[Act.put]
theorem zDr (hT0:Tidy w0 S0) (E0:Ext N w0 S0 w S) (R:yI X B w S) (A:vK N w S st lb a) (hn:n<=a.tmps.size) {dst:Option Nat} (hdst:∀x,dst=some x->x<n)
  (T:zCe X B N w S w' S') {d:D} {v:Value} (hv:yE w' S' d v) {K:St->Prop} (hK:K ((st.put dst d).setM S'.m)):zCh X B N n w0 S0 K (a.put dst v) w':=by
 have A':=A.step R.tidy T
 refine⟨_,S',lb,hK,T.rel,?_,E0.trans hT0 T.ext,by rw[zIu];exact hn⟩
 cases dst with
 |none=>exact A'
 |some x=>exact A'.put (by have:=hdst x rfl;omega) hv
theorem zCh.mono {K K':St->Prop} (h:zCh X B N n w0 S0 K a w) (hk:∀st,K st->K' st):zCh X B N n w0 S0 K' a w:=
 let ⟨st,S,lb,h1,h2⟩:=h;⟨st,S,lb,hk st h1,h2⟩
theorem zKu (A:vK N w S st lb a):st.setM S.m=st:=by
 unfold St.setM;rw[<-A.m]
theorem zXd (st:St) (dst:Option Nat) (d:D) (m:Mem):(st.setM m).put dst d=(st.put dst d).setM m:=by
 cases dst<;>rfl
theorem zCx (hT0:Tidy w0 S0) (E0:Ext N w0 S0 w S) (R:yI X B w S) (A:vK N w S st lb a) (hn:n<=a.tmps.size) {dst:Option Nat} (hdst:∀x,dst=some x->x<n)
  {d:D} {v:Value} (hv:yE w S d v) {K:St->Prop} (hK:K (st.put dst d)):zCh X B N n w0 S0 K (a.put dst v) w:=by
 refine zDr hT0 E0 R A hn hdst (zCe.refl R) hv ?_
 have:(st.put dst d).setM S.m=st.put dst d:=by
  rw[<-zXd,zKu A]
 rw[this];exact hK
theorem evArgs (R:yI X B w S) (A:vK N w S st lb a):∀l:List Operand,HasL w S (vB X st l) (l.map a.eval)
 |[]=>⟨rfl,λj c v hc=>by simp[vB] at hc⟩
 | x::r=>by
  have ih:=evArgs R A r
  exact⟨by simp[vB,ih.len],λj c v hc hv=>by
   cases j with
   |zero=>simp[vB] at hc hv;subst hc;subst hv;exact xP R A x
   |succ j=>simp[vB] at hc hv;exact ih.at_ j c v hc (by simpa using hv)⟩
theorem zVi {a b:List D} {x y:List Value} (h:HasL w S a x) (h':HasL w S b y):HasL w S (a++b) (x++y) where
 len:=by simp[h.len,h'.len]
 at_:=λj c v hc hv=>by
  have hl:=h.len
  rcases Nat.lt_or_ge j a.length with hj|hj
  ·rw[List.getElem?_append_left hj] at hc
   rw[List.getElem?_append_left (by omega)] at hv
   exact h.at_ j c v hc hv
  ·rw[List.getElem?_append_right hj] at hc
   rw[List.getElem?_append_right (by omega)] at hv
   exact h'.at_ _ c v hc (by rw[<-hl] at hv;exact hv)
theorem yDt {f:Nat} {cap:List D} {v:Value} (h:yE w S (.func f cap) v):∃vs:Array Value,v=.func (.func f) #[] vs/\HasL w S cap vs.toList:=by
 cases h with
 |func _ _ vs hl hv=>exact⟨vs,rfl,by simpa using hl,λj c v hc hv'=>hv j c v hc (by simpa using hv')⟩
theorem zIf {P:Program} {f:Nat} (h:zBc P f=true) (args:Array Value) (w:World):(callFunc f args).run P w=.ok (.enter f args) w:=by
 unfold zBc at h
 split at h
 ·rename_i fn hf
  simp only[Bool.and_eq_true,Bool.not_eq_true'] at h
  obtain⟨h1,h2⟩:=h
  have h3:¬fn.body=none:=by intro hb;rw[hb] at h1;cases h1
  have h4 : ¬ fn.name = "runtime.NumGoroutine" := by simpa using h2
  unfold callFunc
  simp[hf,h3,h4]
 ·cases h
theorem zAd {o:Oper} {next:Act->World->Prop} {Q:Exit->Act->World->Prop} {v:Value} (hnd:∀c,o.op≠.defer c) (h:(execOp a.eval o).run X.P w=.ok (.value v) w') (hK:next (a.put o.dst v) w'):o.wpIn (FR rd) 0 X.P a w next Q:=by
 unfold Oper.wpIn;rw[show (FR rd).round=rd from rfl,Oper.semAt_eq _ _ _ hnd,h];exact⟨λ_ _=>trivial,hK⟩
theorem zAy (hT0:Tidy w0 S0) (E0:Ext N w0 S0 w S) (R:yI X B w S) (A:vK N w S st lb a) (hn:n<=a.tmps.size) {o:Oper} (hdst:∀x,o.dst=some x->x<n)
  {K:St->Prop} {Q:Exit->Act->World->Prop} (h:zGs X o K st):o.wpIn (FR rd) 0 X.P a w (zCh X B N n w0 S0 K) Q:=by
 unfold zGs at h
 rw[A.m] at h
 split at h
 ·rename_i d hd
  obtain⟨v,hr,hv⟩:=zTt R A (m0:=S.m) (λ_ _ h=>h) hd
  exact zAd (λc e=>by rw[e] at hd;cases hd) hr (zCx hT0 E0 R A hn hdst hv h)
 ·exact h.elim
theorem zKs (hT0:Tidy w0 S0) (E0:Ext N w0 S0 w S) (R:yI X B w S) (A:vK N w S st lb a) (hn:n<=a.tmps.size) {o:Oper} (hdst:∀x,o.dst=some x->x<n)
  {K:St->Prop} {Q:Exit->Act->World->Prop} (h:zBi X F o K st):o.wpIn (FR rd) 0 X.P a w (zCh X B N n w0 S0 K) Q:=by
 unfold zBi at h
 rw[A.m] at h
 split at h
 ·rename_i d m hd
  obtain⟨dst,op,ty,pos,af,gd⟩:=o
  have fin:(∃v w' S',(execOp a.eval ⟨dst,op,ty,pos,af,gd⟩).run X.P w=.ok (.value v) w'/\S'.m=m/\zCe X B N w S w' S'/\yE w' S' d v)->(⟨dst,op,ty,pos,af,gd⟩:Oper).wpIn (FR rd) 0 X.P a w (zCh X B N n w0 S0 K) Q:=by
   rintro ⟨v,w',S',hr,rfl,T,hv⟩
   exact zAd (λc e=>by have e:op=.defer c:=e;subst e;cases hd) hr (zDr hT0 E0 R A hn hdst T hv h)
  cases op<;>first|(cases hd;done)|exact fin (yLr R A hd)|exact fin (zSv R A hd)|skip
  rename_i c
  obtain⟨callee,args,tys⟩:=c
  cases callee<;>first|(cases hd;done)|skip
  rename_i b
  cases b<;>first|(cases hd;done)|skip
  ·exact fin (yGn R A hd)
  ·exact fin (yLo R A hd)
  ·exact fin (ySa R A hd)
 ·exact h.elim
theorem yJd (hT0:Tidy w0 S0) (E0:Ext N w0 S0 w S) (R:yI X B w S) (A:vK N w S st lb a) (hn:n<=a.tmps.size) {o:Oper} (hdst:∀x,o.dst=some x->x<n)
  {K:St->Prop} {Q:Exit->Act->World->Prop} (h:yBm X o K st):o.wpIn (FR rd) 0 X.P a w (zCh X B N n w0 S0 K) Q:=by
 unfold yBm at h
 split at h
 ·rename_i d hd
  obtain⟨dst,op,ty,pos,af,gd⟩:=o
  cases op<;>first|(cases hd;done)|skip
  obtain⟨v,w',S',hr,hm,T,hv⟩:=zPz (N:=N) R A hd
  refine zAd (λc e=>by cases e) hr (zDr hT0 E0 R A hn hdst T hv ?_)
  rw[hm]
  have:(st.put dst d).setM S.m=st.put dst d:=by rw[<-zXd,zKu A]
  rw[this];exact h
 ·exact h.elim
theorem yRy (hT0:Tidy w0 S0) (hN:N<=w0.heap.size) (E0:Ext N w0 S0 w S) (R:yI X B w S) (A:vK N w S st lb a) (hn:n<=a.tmps.size) {dst:Option Nat} {f:Operand} {args:Array Operand} {tys:Array Nat} {ty:Nat} {pos:String} {af:Array Edge} {gd:Option (Nat×Bool)}
  (hdst:∀x,dst=some x->x<n) {K:St->Prop} {Q:Exit->Act->World->Prop} {g:Nat} {cap:List D} (hf:ev X st f=.func g cap)
  (h:qJ X g st.m (vB X st args.toList++cap) λr m=>K ((st.put dst r).setM m)) :
  (⟨dst,.call ⟨.value f,args,tys⟩,ty,pos,af,gd⟩:Oper).wpIn (FR rd) 0 X.P a w (zCh X B N n w0 S0 K) Q:=by
 obtain⟨hen,hdet⟩:=h
 have hfv:=xP R A f
 rw[hf] at hfv
 obtain⟨vs,hv,hcap⟩:=yDt hfv
 have hargs:=zVi (evArgs R A args.toList) hcap
 have hcall:=hdet B w S (args.map a.eval++vs) R A.m.symm (by simpa using hargs)
 unfold Oper.wpIn
 rw[show (FR rd).round=rd from rfl,Oper.semAt_eq _ _ _ (λc e=>by cases e)]
 refine⟨λ_ _=>trivial,?_⟩
 have hr:(execOp a.eval ⟨dst,.call ⟨.value f,args,tys⟩,ty,pos,af,gd⟩).run X.P w=.ok (.enter g (args.map a.eval++vs)) w:=by
  simp only[execOp,resolve,hv,Deferred.ofValue,Sem.run_bind,Sem.run_pure,Result.andThen_ok,invoke,zIf hen]
  simp
 rw[hr,Oper.uponIn_enter]
 refine⟨λh=>(by cases h),yEc (hcall.mono λe w' h'=>?_)⟩
 obtain⟨v,S',r,rfl,hK,R',E',hv'⟩:=h'
 have T:zCe X B N w S w' S':=⟨R',E'.mono (Nat.le_trans hN E0.size),λb hb=>E'.keep b (R.mu b hb) (λh=>R.bbMu b h hb) (λid k h=>R.tbMu id b k h hb) (.inl (R.mu b hb)),λb hb=>E'.mu b hb (R.mu b hb)⟩
 exact zDr hT0 E0 R A hn hdst T hv' hK
theorem xAg {id:Nat} {v:Value} (h:yE w S (.yld id) v):∃b,v=.func (.yield b) #[] #[]/\S.bb[id]?=some b:=by
 cases h with
 |yld _ b hb=>exact⟨b,rfl,hb⟩
theorem yKv (hT0:Tidy w0 S0) (hN:N<=w0.heap.size) (E0:Ext N w0 S0 w S) (R:yI X B w S) (A:vK N w S st lb a) (hn:n<=a.tmps.size) {dst:Option Nat} {f:Operand} {args:Array Operand} {tys:Array Nat} {ty:Nat} {pos:String} {af:Array Edge} {gd:Option (Nat×Bool)}
  (hdst:∀x,dst=some x->x<n) {K:St->Prop} {Q:Exit->Act->World->Prop} {id:Nat} (hf:ev X st f=.yld id)
  (h:zHt X id st.m (vB X st args.toList) λr m=>K ((st.put dst r).setM m)) :
  (⟨dst,.call ⟨.value f,args,tys⟩,ty,pos,af,gd⟩:Oper).wpIn (FR rd) 0 X.P a w (zCh X B N n w0 S0 K) Q:=by
 have hfv:=xP R A f
 rw[hf] at hfv
 obtain⟨b,hv,hb⟩:=xAg hfv
 obtain⟨b',r,hb',hr,hsz,hround⟩:=h B w S (args.map a.eval) R A.m.symm (by simpa using evArgs R A args.toList)
 rw[hb] at hb';cases hb'
 unfold Oper.wpIn
 rw[show (FR rd).round=rd from rfl,Oper.semAt_eq _ _ _ (λc e=>by cases e)]
 refine⟨λ_ _=>trivial,?_⟩
 have hrun:(execOp a.eval ⟨dst,.call ⟨.value f,args,tys⟩,ty,pos,af,gd⟩).run X.P w=.ok (.round b r.fn ((r.params.zip (args.map a.eval)).foldl (λtmps (t,a)=>tmps.setIfInBounds t a) r.tmps) r.assign r.body) w:=by
  simp only[execOp,resolve,hv,Deferred.ofValue,Sem.run_bind,Sem.run_pure,Result.andThen_ok,invoke]
  rw[show (#[]++Array.map a.eval args)=Array.map a.eval args from by simp]
  exact run_yield hr hsz
 rw[hrun,Oper.uponIn_round]
 refine⟨λh=>(by cases h),(hround rd).mono λe w' h'=>?_⟩
 obtain⟨v,S',r,rfl,hK,R',E',hv'⟩:=h'
 have T:zCe X B N w S w' S':=⟨R',E'.mono (Nat.le_trans hN E0.size),λb hb=>E'.keep b (R.mu b hb) (λh=>R.bbMu b h hb) (λid k h=>R.tbMu id b k h hb) (.inl (R.mu b hb)),λb hb=>E'.mu b hb (R.mu b hb)⟩
 exact zDr hT0 E0 R A hn hdst T hv' hK
theorem step_alloc' (hT0:Tidy w0 S0) (hN:N<=w0.heap.size) (E0:Ext N w0 S0 w S) (R:yI X B w S) (A:vK N w S st lb a) (hn:n<=a.tmps.size) {o:Oper} (hdst:∀x,o.dst=some x->x<n)
  {K:St->Prop} {Q:Exit->Act->World->Prop} {cs:List D} {vs:Array Value} {t:Nat} (hc:xN w S cs vs.toList)
  (hnd:∀c,o.op≠.defer c) (hr:(execOp a.eval o).run X.P w=.ok (.value (.pointer (some ⟨w.heap.size,0,none⟩))) (w.alloc (.cells vs t (0,0)))) (h:zEe F o cs K st):o.wpIn (FR rd) 0 X.P a w (zCh X B N n w0 S0 K) Q:=by
 unfold zEe at h
 split at h
 ·rename_i x hx
  have hxn:=hdst x hx
  refine zAd hnd hr ?_
  rw[hx]
  split at h
  ·have R':=R.allocBox t hc
   have T:zCe X B N w S (w.alloc (.cells vs t (0,0))) (S.addBox w.heap.size cs):=⟨R',Ext.allocBox R _ cs,zDo R _,λ_ h=>h⟩
   have hv:yE (w.alloc (.cells vs t (0,0))) (S.addBox w.heap.size cs) (.ptr st.m.boxes.length 0) (.pointer (some ⟨w.heap.size,0,none⟩)):=by
    refine .ptr _ 0 _ ?_
    simp only[Sh.addBox]
    rw[A.m,<-R.bbLen];simp
   refine zDr hT0 E0 R A hn (λy hy=>by cases hy;exact hxn) T hv ?_
   rw[A.m] at h ⊢
   rw[hx] at h
   exact h
  ·have A':=vK.newBox R A (Nat.lt_of_lt_of_le hxn hn) (Nat.le_trans hN E0.size) t hc
   exact⟨_,_,_,h,R.allocMu _,A',E0.trans hT0 (Ext.allocMu R _),by rw[zIu];exact hn⟩
 ·exact h.elim
theorem yAc (hB:B<=N) (R:yI X B w S) (A:vK N w S st lb a) (k:Nat):∃S',yI X B w S'/\Ext N w S w S'/\vK N w S' (zKg st k) lb a:=by
 unfold zKg
 cases hk:st.bx k with
 |none=>exact⟨S,R,Ext.refl N w S,A⟩
 | some cs=>
  obtain⟨hN,hmu,vs,t,hh,hc⟩:=A.boxes k cs hk
  have hlt:=R.mu _ hmu
  have hlen:cs.length=vs.size:=by have:=hc.len;simpa using this
  let S':Sh:={ S with mu:=λb=>S.mu b/\b≠lb k,bb:=S.bb++[lb k],m:={ S.m with boxes:=S.m.boxes++[cs] } }
  have E:Ext N w S w S':={
   os:=rfl
   tape:=rfl
   output:=rfl
   ok:=rfl
   size:=Nat.le_refl _
   mu:=λb h hl=>⟨h,λe=>by omega⟩
   muNew:=λb h _=>h.1
   bb:=λ_ _ h=>wE h
   bbNew:=λb h _=>by
    rcases List.mem_append.1 h with h|h
    ·exact .inl h
    ·simp at h;subst h;exact .inr ⟨hmu,hN⟩
   tb:=λ_ b _ h=>⟨b,h,.inl rfl⟩
   tbNew:=λ_ _ _ h _=>h
   marks:=λ_ mk h=>⟨mk,h,Nat.le_refl _⟩
   markSame:=λ_ _ b k b' _ _ h h'=>by rw[show S'.tb=S.tb from rfl,h] at h';cases h';rfl
   keep:=λ_ _ _ _ _=>rfl
   shp:=λ_ _ _ h=>h
   lps:=λ_ _ r h=>⟨r,h⟩
   keepT:=λ_ _ _ _ _ _ c _ _ h=>⟨c,h,rfl,λ_ _=>rfl⟩ }
  have R':yI X B w S':={
   bbLen:=by simp[S',R.bbLen]
   tbLen:=R.tbLen
   mu:=λb h=>R.mu b h.1
   bbLt:=λb h=>by
    rcases List.mem_append.1 h with h|h
    ·exact R.bbLt b h
    ·simp at h;subst h;exact hlt
   tbLt:=R.tbLt
   tbInj:=R.tbInj
   tbBb:=λid b k' h hb=>by
    rcases List.mem_append.1 hb with hb|hb
    ·exact R.tbBb id b k' h hb
    ·simp at hb;subst hb;exact R.tbMu id _ k' h hmu
   tbMu:=λid b k' h hb=>R.tbMu id b k' h hb.1
   bbMu:=λb h hb=>by
    rcases List.mem_append.1 h with h|h
    ·exact R.bbMu b h hb.1
    ·simp at h;exact hb.2 h
   okNew:=R.okNew
   okTok:=R.okTok
   base:=R.base
   bbGe:=λb h=>by
    rcases List.mem_append.1 h with h|h
    ·exact R.bbGe b h
    ·simp at h;omega
   tbGe:=R.tbGe
   bbInj:=λid id' b c c' h h' k k' n n'=>by
    rcases zP h with h|⟨h,e⟩<;>rcases zP h' with h'|⟨h',e'⟩
    ·have l1:=zJ h;have l2:=zJ h';have l3:=R.bbLen
     have k:(S.m.boxes++[cs])[id]?=some c:=k
     have k':(S.m.boxes++[cs])[id']?=some c':=k'
     rw[List.getElem?_append_left (by omega)] at k k'
     exact R.bbInj id id' b c c' h h' k k' n n'
    ·subst e';exact absurd hmu (R.bbMu _ (List.mem_of_getElem? h))
    ·subst e;exact absurd hmu (R.bbMu _ (List.mem_of_getElem? h'))
    ·omega
   boxes:=λid b c h h'=>by
    rcases zP h with h1|⟨h1,e⟩<;>rcases zP h' with h2|⟨h2,e'⟩
    ·exact(R.boxes id b c h1 h2).mono rfl E R.tidy
    ·have:=zJ h1;have:=R.bbLen;omega
    ·have:=zJ h2;have:=R.bbLen;omega
    ·subst e;subst e'
     exact .cells (zVx hc.cell) ⟨vs,t,(0,0),hh,xW vs,Nat.le_of_eq hlen,by rw[hlen,List.take_of_length_le (by simp)];exact hc.mono E R.tidy⟩
   toks:=R.toks
   glob:=λg c h=>(R.glob g c h).mono E R.tidy }
  refine⟨S',R',E,?_⟩
  have isk:∀k',(upd st.bx k none k').isSome=true->k'≠k/\(st.bx k').isSome=true:=λk' h=>by
   by_cases e:k'=k
   ·subst e;rw[yP] at h;cases h
   ·rw[yA _ _ e] at h;exact⟨e,h⟩
  exact{
   m:=by show ({ st.m with boxes:=st.m.boxes++[cs] }:Mem)=_;rw[A.m]
   defers:=A.defers.to λb hd h=>⟨⟨h,λe=>by subst e;rw[hh] at hd;cases hd⟩,rfl⟩
   slots:=λy=>by
    show yE w S' (prS st.sl st.lp k st.m.boxes.length y) _
    unfold prS
    cases hl:st.lp y with
    |none=>exact(A.slots y).mono E R.tidy
    | some ko=>
     obtain⟨k',o⟩:=ko
     simp only
     by_cases e:k'=k
     ·subst e
      rw[if_pos rfl,(A.regs y k' o hl).1]
      refine .ptr _ o _ ?_
      show (S.bb++[lb k'])[st.m.boxes.length]?=some (lb k')
      rw[A.m,<-R.bbLen];simp
     ·rw[if_neg e];exact(A.slots y).mono E R.tidy
   regs:=λy k' o h=>by
    have h:zEo k (st.lp y)=some (k',o):=h
    unfold zEo at h
    cases hl:st.lp y with
    |none=>rw[hl] at h;cases h
    | some ko=>
     obtain⟨k2,o2⟩:=ko
     rw[hl] at h
     simp only at h
     by_cases e:k2=k
     ·rw[if_pos e] at h;cases h
     ·rw[if_neg e] at h;cases h
      obtain⟨h1,h2⟩:=A.regs y k' o hl
      exact⟨h1,by show (upd st.bx k none k').isSome=true;rw[yA _ _ e];exact h2⟩
   boxes:=λk' c h=>by
    have h:upd st.bx k none k'=some c:=h
    have hne:=isk k' (by rw[h];rfl)
    rw[yA _ _ hne.1] at h
    obtain⟨h1,h2,us,t',h3,h4⟩:=A.boxes k' c h
    exact⟨h1,⟨h2,λe=>hne.1 (A.inj k' k (by rw[h];rfl) (by rw[hk];rfl) e)⟩,us,t',h3,h4.mono E R.tidy⟩
   inj:=λk1 k2 h1 h2=>A.inj k1 k2 (isk k1 h1).2 (isk k2 h2).2 }
theorem zLs (hB:B<=N):∀(l:List Operand) {S:Sh} {st:St},yI X B w S->vK N w S st lb a->∃S',yI X B w S'/\Ext N w S w S'/\vK N w S' (uV st l) lb a
 |[],S,_,R,A=>⟨S,R,Ext.refl N w S,A⟩
 | x::r,S,st,R,A=>by
  have h1:∃S',yI X B w S'/\Ext N w S w S'/\vK N w S' (zFi st (wP st x)) lb a:=by
   cases wP st x with
   |none=>exact⟨S,R,Ext.refl N w S,A⟩
   |some ko=>exact yAc hB R A ko.1
  obtain⟨S1,R1,E1,A1⟩:=h1
  obtain⟨S2,R2,E2,A2⟩:=zLs hB r R1 A1
  exact⟨S2,R2,E1.trans R.tidy E2,A2⟩
theorem step_ok' (hC:zAc X C) (hB:B<=N) (hT0:Tidy w0 S0) (hN:N<=w0.heap.size) (E0:Ext N w0 S0 w S) (R:yI X B w S) (A:vK N w S st lb a) (hn:n<=a.tmps.size) {dst:Option Nat} {op:Op} {ty:Nat} {pos:String} {af:Array Edge} {gd:Option (Nat×Bool)} (hdst:∀x,dst=some x->x<n)
  {K:St->Prop} {Q:Exit->Act->World->Prop} (h:xE X F C ⟨dst,op,ty,pos,af,gd⟩ K st):(⟨dst,op,ty,pos,af,gd⟩:Oper).wpIn (FR rd) 0 X.P a w (zCh X B N n w0 S0 K) Q:=by
 cases op<;>first
  |exact h.elim
  |exact zAy hT0 E0 R A hn hdst h
  |exact zKs hT0 E0 R A hn hdst h
  |exact yJd hT0 E0 R A hn hdst h
  |skip
 case makeFunc f fs b=>
  simp only[xE] at h
  obtain⟨S',R',E',A'⟩:=zLs hB b.toList R A
  exact zAy hT0 (E0.trans hT0 E') R' A' hn hdst h
 case convert src dst' x=>
  simp only[xE] at h
  split at h
  ·exact zKs hT0 E0 R A hn hdst h
  ·exact zAy hT0 E0 R A hn hdst h
 case alloc t=>
  simp only[xE] at h
  split at h
  ·rename_i z hz
   obtain⟨zv,h1,h2⟩:=uQ hz
   have hzv:=qC (w:=w) (S:=S) h2
   have hok:z.okC=true:=by
    unfold zCo at h2
    split at h2
    ·rename_i cs
     cases hc:zJt zFe cs.toList with
     |none=>rw[hc] at h2;cases h2
     |some ds=>rw[hc] at h2;cases h2;rfl
    ·have:=(zLf (w:=w) (S:=S) h2).2
     cases z<;>first|rfl|cases this
   have hc:=vH hzv hok
   refine step_alloc' hT0 hN E0 R A hn hdst hc (t:=t) (λc e=>by cases e) ?_ h
   simp[execOp,Instr.alloc,vA h1,newVar,newRow]
  ·exact h.elim
 case box t v=>
  simp only[xE] at h
  split at h
  ·rename_i k hk
   split at h
   ·rename_i hb
    simp only[Bool.and_eq_true,decide_eq_true_eq] at hb
    have hc:=vH (xP R A v) hb.1
    refine step_alloc' hT0 hN E0 R A hn hdst hc (t:=t) (λc e=>by cases e) ?_ h
    simp[execOp,Instr.box,newVar,newRow]
   ·exact h.elim
  ·exact h.elim
 case store t p v=>
  simp only[xE] at h
  split at h
  ·unfold zJn at h
   cases p with
   | tmp x =>
    simp only at h
    have store:∀(b off nn:Nat) (vs0:Array Value) (ty':Nat) (fr:Nat×Nat),a.tmps.getD x undef=.pointer (some ⟨b,off,none⟩)->yS X.P t=some nn->(ev X st v).okC=true->(ev X st v).cells.length=nn->w.heap[b]?=some (.cells vs0 ty' fr)->zEk vs0 fr->off+nn<=vs0.size->
      xN w S (ev X st v).cells (a.eval v).cells.toList/\(a.eval v).cells.toList.length=nn/\(execOp a.eval ⟨none,.store t (.tmp x) v,ty,pos,af,gd⟩).run X.P w=.ok .skip (w.setRow b (vs0.toList.take off++(a.eval v).cells.toList++vs0.toList.drop (off+nn)).toArray):=λb off nn vs0 ty' fr he hnn hok hl hh ho hfit=>by
     have hc:=vH (xP R A v) hok
     have hsz:(a.eval v).cells.size=nn:=by have:=hc.len;simp at this;omega
     refine⟨hc,by simpa using hsz,?_⟩
     have:=zSp (P:=X.P) hnn hsz (zDk hc) hh ho hfit
     simp only[execOp,Instr.storeAt,show a.eval (.tmp x)=_ from he,Instr.sureAddr,Sem.run_bind,Sem.run_pure,Result.andThen_ok,this]
    split at h
    ·rename_i key off hl
     obtain⟨hp,_⟩:=A.regs x key off hl
     split at h
     ·rename_i cs nn hb hnn
      split at h
      ·rename_i hc
       simp only[Bool.and_eq_true,decide_eq_true_eq] at hc
       obtain⟨_,_,vs0,ty0,hh,hcs⟩:=A.boxes key cs hb
       have hlen:cs.length=vs0.size:=by have:=hcs.len;simpa using this
       obtain⟨hcv,hsz,hr⟩:=store (lb key) off nn vs0 ty0 (0,0) hp hnn hc.1.1 hc.1.2 hh (xW vs0) (by omega)
       have hspl:=zEq hcs hcv (off:=off) (by omega)
       rw[hsz] at hspl
       obtain⟨R',E',A'⟩:=vK.setBox R A hb hh (vs:=(vs0.toList.take off++(a.eval v).cells.toList++vs0.toList.drop (off+nn)).toArray) (by simpa using hspl)
       unfold Oper.wpIn
       rw[show (FR rd).round=rd from rfl,Oper.semAt_eq _ _ _ (λc e=>by cases e),hr,Oper.uponIn_skip]
       refine⟨λ_ _=>trivial,?_⟩
       exact⟨_,S,lb,h,R',A',E0.trans hT0 E',hn⟩
      ·exact h.elim
     ·exact h.elim
    ·rename_i hl
     split at h
     ·rename_i id off hid
      have hx:=A.slots x
      rw[hid] at hx
      generalize hp:a.tmps.getD x undef=pv at hx
      cases hx with
      | ptr _ _ b hbb=>
       rw[A.m] at h
       split at h
       ·rename_i cs nn hb hnn
        split at h
        ·rename_i hc
         simp only[Bool.and_eq_true,decide_eq_true_eq] at hc
         obtain⟨hb,hno⟩:=yC hb
         obtain⟨vs0,ty0,fr,hh,ho,hlen,hcs⟩:=(R.boxes id b cs hbb hb).1 hno
         obtain⟨hcv,hsz,hr⟩:=store b off nn vs0 ty0 fr hp hnn hc.1.1 hc.1.2 hh ho (by omega)
         have hspl:=zEq (vs:=(vs0.toList.take cs.length).toArray) (by simpa using hcs) hcv (off:=off) (by omega)
         rw[hsz] at hspl
         have hcl:(setRow cs off (ev X st v).cells).length=cs.length:=setRow_len' _ _ _
         have hnew:(vs0.toList.take off++(a.eval v).cells.toList++vs0.toList.drop (off+nn)).length=vs0.size:=by
          simp only[List.length_append,List.length_take,List.length_drop,hsz,Array.length_toList];omega
         have hnil:cs≠[]\/(vs0.toList.take off++(a.eval v).cells.toList++vs0.toList.drop (off+nn)).toArray=vs0:=by
          by_cases e:cs=[]
          ·refine .inr ?_
           have h0:off=0/\nn=0:=by have:=hc.2;rw[e] at this;simp at this;omega
           obtain⟨rfl,rfl⟩:=h0
           have:(a.eval v).cells.toList=[]:=List.length_eq_zero_iff.1 hsz
           rw[this];simp
          ·exact .inl e
         have R':=R.setBox hbb (vs:=(vs0.toList.take off++(a.eval v).cells.toList++vs0.toList.drop (off+nn)).toArray) hb hh (λj hj=>ho j (by rw[List.size_toArray,hnew] at hj;exact hj)) (by rw[hcl,List.size_toArray,hnew];exact hlen) (by rw[List.size_toArray,hnew]) hcl hnil (by
          rw[hcl]
          have e:(vs0.toList.take off++(a.eval v).cells.toList++vs0.toList.drop (off+nn)).toArray.toList.take cs.length=(vs0.toList.take cs.length).toArray.toList.take off++(a.eval v).cells.toList++(vs0.toList.take cs.length).toArray.toList.drop (off+nn):=by
           exact zLm _ _ off nn cs.length hsz (by omega) (by rw[Array.length_toList];omega)
          rw[e]
          exact hspl)
         have T:zCe X B N w S _ _:=⟨R',Ext.setBox R hbb _ _ hh (by rw[List.size_toArray,hnew]),λc hc'=>setRow_other w b c _ (λe=>by subst e;exact R.bbMu _ (List.mem_of_getElem? hbb) hc'),λ_ h=>h⟩
         unfold Oper.wpIn
         rw[show (FR rd).round=rd from rfl,Oper.semAt_eq _ _ _ (λc e=>by cases e),hr,Oper.uponIn_skip]
         refine⟨λ_ _=>trivial,?_⟩
         exact⟨_,_,lb,h,R',A.step R.tidy T,E0.trans hT0 T.ext,hn⟩
        ·exact h.elim
       ·exact h.elim
     ·exact h.elim
   |const v=>exact h.elim
   |global g=>exact h.elim
   |func f=>exact h.elim
  ·exact h.elim
 case fieldAddr t p i=>
  simp only[xE] at h
  split at h
  ·rename_i key off hp
   cases p with
   | tmp x=>
    have hp:st.lp x=some (key,off):=hp
    obtain⟨he,hb⟩:=A.regs x key off hp
    split at h
    ·rename_i o y ho
     have hyn:=hdst y rfl
     refine zAd (v:=.pointer (some ⟨lb key,off+o,none⟩)) (w':=w) (λc e=>by cases e) ?_ ?_
     ·simp only[execOp,Sem.run_bind,show a.eval (.tmp x)=_ from he,zEt ho];rfl
     ·exact⟨_,S,lb,h,R,A.putL (Nat.lt_of_lt_of_le hyn hn) hb,E0,by rw[zIu];exact hn⟩
    ·exact h.elim
   |const v=>cases hp
   |global g=>cases hp
   |func f=>cases hp
  ·exact zAy hT0 E0 R A hn hdst h
 case nilCheck p=>
  simp only[xE] at h
  split at h
  ·rename_i key off hp
   cases p with
   | tmp x=>
    have hp:st.lp x=some (key,off):=hp
    obtain⟨he,hb⟩:=A.regs x key off hp
    refine zAd (v:=.pointer (some ⟨lb key,off,none⟩)) (w':=w) (λc e=>by cases e) ?_ ?_
    ·simp only[execOp,show a.eval (.tmp x)=_ from he];rfl
    ·split at h
     ·rename_i y
      have hyn:=hdst y rfl
      exact⟨_,S,lb,h,R,A.putL (Nat.lt_of_lt_of_le hyn hn) hb,E0,by rw[zIu];exact hn⟩
     ·exact⟨_,S,lb,h,R,A,E0,hn⟩
   |const v=>cases hp
   |global g=>cases hp
   |func f=>cases hp
  ·exact zAy hT0 E0 R A hn hdst h
 case call c=>
  obtain⟨callee,args,tys⟩:=c
  cases callee with
  | value f=>
   simp only[xE] at h
   split at h
   ·rename_i g cap hf
    split at h
    ·rename_i hg
     exact yRy hT0 hN E0 R A hn hdst hf (yQa hg (hC.run _ _ _ _ h))
    ·exact h.elim
   ·rename_i id hf
    exact yKv hT0 hN E0 R A hn hdst hf (yJm (hC.run _ _ _ _ h))
   ·exact h.elim
  |invoke r m=>exact h.elim
  | builtin b=>
   cases b<;>first
    |exact h.elim
    |exact zAy hT0 E0 R A hn hdst h
    |exact zKs hT0 E0 R A hn hdst h
theorem step_ok (hC:zAc X C) (hB:B<=N) (hT0:Tidy w0 S0) (hN:N<=w0.heap.size) (E0:Ext N w0 S0 w S) (R:yI X B w S) (A:vK N w S st lb a) (hn:n<=a.tmps.size) {o:Oper} (hdst:∀x,o.dst=some x->x<n)
  {K:St->Prop} {Q:Exit->Act->World->Prop} (h:xE X F C o K st):o.wpIn (FR rd) 0 X.P a w (zCh X B N n w0 S0 K) Q:=
 step_ok' hC hB (dst:=o.dst) (op:=o.op) (ty:=o.type) (pos:=o.pos) (af:=o.after) (gd:=o.guard) hT0 hN E0 R A hn hdst h
theorem zDb :∀(l:List Oper) (i j:Nat),zBk l i (i+j)=(l[j]?).bind (·.dst)
 |[],i,j=>by simp[zBk]
 |o::r,i,0=>by simp[zBk]
 |o::r,i,j+1=>by
  simp only[zBk]
  rw[if_neg (by omega)]
  have:=zDb r (i+1) j
  rw[show i+(j+1)=i+1+j by omega,this];simp
theorem zIz (A:vK N w S st lb a) {ops:Array Oper} {j:Nat} {r:Option Bool} (h:vE ops.toList st j=some r):yielded ops a.tmps j=r:=by
 unfold vE at h
 have hd:=zDb ops.toList 0 j
 rw[Nat.zero_add] at hd
 rw[hd] at h
 unfold yielded
 have e:ops.toList[j]?=ops[j]?:=by simp
 rw[e] at h
 cases hx:(ops[j]?).bind (·.dst) with
 |none=>rw[hx] at h;cases h
 | some x=>
  rw[hx] at h
  simp only at h
  have hv:=A.slots x
  simp only[Option.bind_some]
  unfold zQl at h
  split at h
  ·rename_i b hb
   cases h
   rw[hb] at hv
   have:=zCq hv
   simp only[Array.getD_eq_getD_getElem?] at this
   cases hg:a.tmps[x]? with
   |none=>rw[hg] at this;cases this
   |some u=>rw[hg] at this;simp at this;subst this;rfl
  ·rename_i hb
   cases h
   rw[hb] at hv
   obtain⟨vs,hvs,hl,_⟩:=zXt hv
   simp only[Array.getD_eq_getD_getElem?] at hvs
   cases hg:a.tmps[x]? with
   |none=>rfl
   |some u=>rw[hg] at hvs;simp at hvs;subst hvs;rfl
  ·cases h
theorem zWk (hC:zAc X C) (hB:B<=N) (hT0:Tidy w0 S0) (hN:N<=w0.heap.size) {ops:Array Oper} (hdst:∀o∈ops.toList,∀x,o.dst=some x->x<n) {K:St->Prop} {Q:Exit->Act->World->Prop} (hQ:∀a w,zCh X B N n w0 S0 K a w->Q .normal a w) :
  ∀(l:List Oper) (k:Nat),(∀j,l[j]?=ops[k+j]?)->∀(a:Act) (w:World),zCh X B N n w0 S0 (zEy X F C ops.toList l K) a w->Go.wpOpsIn (FR rd) 0 X.P ops Q (List.range' k l.length) a w
 |[],k,_,a,w,h=>hQ a w h
 | o ::l,k,hl,a,w,⟨st,S,lb,h,R,A,E,hn⟩=>by
  have h0:ops[k]?=some o:=by simpa using(hl 0).symm
  have ho:o∈ops.toList:=by
   have:ops.toList[k]?=some o:=by simpa using h0
   exact List.mem_of_getElem? this
  have ih:=zWk hC hB hT0 hN hdst hQ l (k+1) (λj=>by have:=hl (j+1);simpa [Nat.add_assoc,Nat.add_comm 1 j] using this)
  rw[List.length_cons,List.range'_succ]
  simp only[Go.wpOpsIn,h0]
  have hd:=hdst o ho
  have run:xE X F C o (zEy X F C ops.toList l K) st->o.wpIn (FR rd) 0 X.P a w (Go.wpOpsIn (FR rd) 0 X.P ops Q (List.range' (k+1) l.length)) Q:=λhs=>
   Oper.wpIn_mono (λa w=>ih a w) (step_ok hC hB hT0 hN E R A hn hd hs)
  have skip:zEy X F C ops.toList l K (st.put o.dst (.tuple []))->Go.wpOpsIn (FR rd) 0 X.P ops Q (List.range' (k+1) l.length) (a.put o.dst undef) w:=λhs=>
   ih _ _ (zCx hT0 E R A hn hd (yE.tuple [] #[] rfl (λj c v hc=>by simp at hc)) hs)
  simp only[zEy,opI] at h
  cases hg:o.guard with
  |none=>
   rw[hg] at h
   simp only[Region.wanted,hg,if_true]
   exact run h
  | some jw=>
   obtain⟨j,want⟩:=jw
   rw[hg] at h
   simp only at h
   simp only[Region.wanted,hg]
   split at h
   ·rename_i b hb
    have hy:=zIz A hb
    rw[hy]
    split at h
    ·rename_i he
     have:b=want:=by cases b<;>cases want<;>simp[eqB] at he ⊢
     subst this
     simp only[beq_self_eq_true,if_true]
     exact run h
    ·rename_i he
     have:((some b:Option Bool)==some want)=false:=by cases b<;>cases want<;>simp[eqB] at he ⊢
     simp only[this,Bool.false_eq_true,if_false]
     exact⟨λ_ _=>trivial,skip h⟩
   ·rename_i hb
    have hy:=zIz A hb
    rw[hy]
    simp only[show ((none:Option Bool)==some want)=false from rfl,Bool.false_eq_true,if_false]
    exact⟨λ_ _=>trivial,skip h⟩
   ·exact h.elim
end
inductive Eff where
 |put (d:D)
 |putM (d:D) (m:Mem)
 |putL (k o:Nat)
 |stay
 |newBox (cs:List D)
 |wr (k off:Nat) (ds:List D)
 |wrM (id off:Nat) (ds:List D)
def wrB (bs:List (List D)) (id off:Nat) (ds:List D):List (List D):=match bs[id]? with|some cs=>bs.set id (setRow cs off ds)|none=>bs
def Eff.apply (dst:Option Nat) (e:Eff) (st:St):St:=
 match e with
 |.put d=>st.put dst d
 |.putM d m=>(st.put dst d).setM m
 |.putL k o=>match dst with|some x=>st.putL x k o|none=>st
 |.stay=>st
 |.newBox cs=>match dst with|some x=>st.newBox x cs|none=>st
 |.wr k off ds=>⟨st.sl,st.lp,(match st.bx k with|some cs=>upd st.bx k (some (setRow cs off ds))|none=>st.bx),st.m⟩
 |.wrM id off ds=>st.setM { st.m with boxes:=wrB st.m.boxes id off ds }
inductive yHh where
 |eff (e:Eff)
 |call (b:Bool) (g:Nat) (ds:List D)
def zAs (X:Ctx) (m0:Mem) (o:Oper) (st:St):Option yHh:=
 match zT X m0 st o.op with
 |some d=>some (.eff (.put d))
 |none=>none
def zEj (X:Ctx) (F:Fi) (o:Oper) (st:St):Option yHh:=
 match wO X (mkB F o.dst) st.m st o.op with
 |some (d,m)=>some (.eff (.putM d m))
 |none=>none
def yOz (X:Ctx) (o:Oper) (st:St):Option yHh:=
 match yBb X st o.op with
 |some d=>some (.eff (.put d))
 |none=>none
def zAv (F:Fi) (o:Oper) (cs:List D) (st:St):Option yHh:=
 match o.dst with
 | some x=>match wX F.esc x with
  |true=>some (.eff (.putM (.ptr st.m.boxes.length 0) { st.m with boxes:=st.m.boxes++[cs] }))
  |false=>match st.bx x with
   |none=>some (.eff (.newBox cs))
   |some _=>none
 |none=>none
def zHk (X:Ctx) (F:Fi) (m0:Mem) (t:Nat) (p v:Operand) (st:St):Option yHh:=
 match qZ F st p with
 | true=>match wP st p with
  | some (key,off)=>match st.bx key,yS X.P t with
   |some cs,some n=>match !zTd F p&&((ev X st v).okC&&decide ((ev X st v).cells.length=n)&&decide (off+n<=cs.length)) with
    |true=>some (.eff (.wr key off (ev X st v).cells))
    |false=>none
   |_,_=>none
  | none=>match ev X st p with
   | .ptr id off=>match uN st.m id,yS X.P t with
    |some cs,some n=>match yBp F m0 p id&&((ev X st v).okC&&decide ((ev X st v).cells.length=n)&&decide (off+n<=cs.length)) with
     |true=>some (.eff (.wrM id off (ev X st v).cells))
     |false=>none
    |_,_=>none
   |_=>none
 |false=>none
def uJ (X:Ctx) (F:Fi) (C:wC) (m0:Mem) (o:Oper) (st:St):Option yHh:=
 match o.op with
 |.alloc t=>match xA X.P t with|some z=>zAv F o z.cells st|none=>none
 |.box t v=>match yS X.P t with
  |some n=>match (ev X st v).okC&&decide ((ev X st v).cells.length=n) with|true=>zAv F o (ev X st v).cells st|false=>none
  |none=>none
 |.store t p v=>match o.dst with|none=>zHk X F m0 t p v st|some _=>none
 | .call { callee:=.value f,args,argTypes:=_ }=>match zCm C.pf F o.dst f with
  |some g=>match C.pv g (vB X st args.toList) with
   |some d=>some (.eff (.put d))
   |none=>none
  | none=>match ev X st f with
   |.func g cap=>match decide (g<100000) with
    |true=>some (.call (mkB F o.dst) (ix F o.dst g) (vB X st args.toList++cap))
    |false=>none
   |.yld id=>some (.call (mkB F o.dst) (qQ+id) (vB X st args.toList))
   |_=>none
 |.call { callee:=.builtin .append,args:=_,argTypes:=_ }|.call { callee:=.builtin .copy,args:=_,argTypes:=_ }|.call { callee:=.builtin .clear,args:=_,argTypes:=_ }=>zEj X F o st
 |.buildSlice _ _ _=>yOz X o st
 |.call { callee:=.builtin .len,args:=_,argTypes:=_ }|.call { callee:=.builtin .min,args:=_,argTypes:=_ }|.call { callee:=.builtin .max,args:=_,argTypes:=_ }=>zAs X m0 o st
 | .fieldAddr t p i=>match wP st p with
  |some (key,off)=>match zE X.P t i,o.dst with
   |some n,some _=>some (.eff (.putL key (off+n)))
   |_,_=>none
  |none=>zAs X m0 o st
 | .nilCheck p=>match wP st p with
  |some (key,off)=>match o.dst with
   |some _=>some (.eff (.putL key off))
   |none=>some (.eff .stay)
  |none=>zAs X m0 o st
 |.load _ p=>match qZ F st p with
  |true=>zAs X m0 o st
  |false=>none
 |.makeSlice _ _ _=>zEj X F o st
 |.convert s d _=>match wA X.P s&&xB X.P d with
  |true=>zEj X F o st
  |false=>zAs X m0 o st
 |.move _|.assign _|.pick _ _ _|.binOp _ _ _ _ _|.unOp _ _ _|.makeFunc _ _ _|.field _ _ _|.build _ _
 |.indexAddr _ _ _|.index _ _ _|.extract _ _|.slice _ _ _ _ _=>zAs X m0 o st
 |_=>none
def zCd (X:Ctx) (F:Fi) (C:wC) (m0:Mem) (all:List Oper) (o:Oper) (st:St):Option yHh:=
 match o.guard with
 |none=>uJ X F C m0 o st
 | some (j,want)=>match vE all st j with
  |some (some b)=>(match eqB want b with
   |true=>uJ X F C m0 o st
   |false=>some (.eff (.put (.tuple []))))
  |some none=>some (.eff (.put (.tuple [])))
  |none=>none
def doN (C:wC) (m0:Mem) (dst:Option Nat) (K:St->Prop) (st:St):Option yHh->Prop
 |some (.eff e)=>K (e.apply dst st)
 |some (.call b g ds)=>zJi C m0 b g ds dst K st
 |none=>False
section
variable {X:Ctx} {F:Fi} {C:wC} {m0:Mem} {K:St->Prop} {st:St}
theorem zAe (o:Oper):zGq X m0 o K st->doN C m0 o.dst K st (zAs X m0 o st):=by
 unfold zGq zAs;cases zT X m0 st o.op<;>exact id
theorem zFk (o:Oper):zBi X F o K st->doN C m0 o.dst K st (zEj X F o st):=by
 unfold zBi zEj;cases wO X (mkB F o.dst) st.m st o.op<;>exact id
theorem yQc (o:Oper):yBm X o K st->doN C m0 o.dst K st (yOz X o st):=by
 unfold yBm yOz;cases yBb X st o.op<;>exact id
theorem zSk (o:Oper) (cs:List D):zHq F o cs K st->doN C m0 o.dst K st (zAv F o cs st):=by
 unfold zHq zAv
 cases hd:o.dst with
 |none=>exact id
 |some x=>
  simp only
  cases wX F.esc x with
  |true=>exact id
  |false=>cases st.bx x<;>exact id
theorem yEq (o:Oper) (t:Nat) (p v:Operand):zJm X F m0 t p v K st->doN C m0 o.dst K st (zHk X F m0 t p v st):=by
 unfold zJm zHk
 cases qZ F st p with
 |false=>exact id
 | true=>
  simp only
  cases wP st p with
  |none=>
   simp only
   generalize ev X st p=pv
   cases pv<;>first|exact id|skip
   rename_i id off
   simp only
   cases hbx:uN st.m id<;>cases yS X.P t<;>intro h<;>first|exact h.elim|skip
   rename_i cs n
   simp only at h ⊢
   cases hb:(yBp F m0 p id&&((ev X st v).okC&&decide ((ev X st v).cells.length=n)&&decide (off+n<=cs.length)))<;>rw[hb] at h<;>first|exact h.elim|skip
   simp only[doN,Eff.apply,wrB,(yC hbx).1]
   exact h
  |some ko=>
   obtain⟨key,off⟩:=ko
   simp only
   cases hbx:st.bx key<;>cases yS X.P t<;>intro h<;>first|exact h.elim|skip
   rename_i cs n
   simp only at h ⊢
   cases hb:(!zTd F p&&((ev X st v).okC&&decide ((ev X st v).cells.length=n)&&decide (off+n<=cs.length)))<;>rw[hb] at h<;>first|exact h.elim|skip
   simp only[doN,Eff.apply,hbx]
   exact h
theorem zWw (o:Oper) (h:xY X F C m0 o K st):doN C m0 o.dst K st (uJ X F C m0 o st):=by
 unfold xY at h
 unfold uJ
 split at h<;>rename_i hop<;>simp only[hop]
 ·split at h
  ·rename_i z hz;rw[hz];exact zSk o _ h
  ·exact h.elim
 ·split at h
  ·rename_i n hn;rw[hn]
   simp only
   split at h
   ·rename_i hb;rw[hb];exact zSk o _ h
   ·exact h.elim
  ·exact h.elim
 ·split at h
  ·rename_i hd;rw[hd];simp only;have:=yEq (C:=C) o _ _ _ h;rw[hd] at this;exact this
  ·exact h.elim
 ·split at h
  ·rename_i g hg
   rw[hg]
   simp only
   split at h
   ·rename_i d hd;rw[hd];exact h
   ·exact h.elim
  ·rename_i hg
   rw[hg]
   simp only
   split at h
   ·rename_i hf
    rw[hf]
    simp only
    split at h
    ·rename_i hg;rw[hg];exact h
    ·exact h.elim
   ·rename_i hf;rw[hf];exact h
   ·exact h.elim
 ·exact zFk o h
 ·exact zFk o h
 ·exact zFk o h
 ·exact yQc o h
 ·exact zAe o h
 ·exact zAe o h
 ·exact zAe o h
 ·split at h
  ·rename_i hr;rw[hr]
   simp only
   split at h
   ·rename_i n x hn hx;rw[hn,hx];exact h
   ·exact h.elim
  ·rename_i hr;rw[hr];exact zAe o h
 ·split at h
  ·rename_i hr;rw[hr]
   simp only
   split at h
   ·rename_i x hx;rw[hx];exact h
   ·rename_i hx;rw[hx];exact h
  ·rename_i hr;rw[hr];exact zAe o h
 ·split at h
  ·rename_i hl;rw[hl];exact zAe o h
  ·exact h.elim
 ·exact zFk o h
 ·split at h
  ·rename_i hl;rw[hl];exact zFk o h
  ·rename_i hl;rw[hl];exact zAe o h
 all_goals first|exact zAe o h|exact h.elim
theorem yZi (all:List Oper) (o:Oper) (h:opN X F C m0 all o K st):doN C m0 o.dst K st (zCd X F C m0 all o st):=by
 unfold opN at h
 unfold zCd
 split at h
 ·rename_i hg;simp only[hg];exact zWw o h
 ·rename_i j want hg
  simp only[hg]
  split at h
  ·rename_i b hb
   simp only[hb]
   split at h
   ·rename_i he;simp only[he];exact zWw o h
   ·rename_i he;simp only[he];exact h
  ·rename_i hb;simp only[hb];exact h
  ·exact h.elim
end
structure zJk (X:Ctx) (F:Fi) (C:wC) (m0:Mem) (ops:Array Oper) (o:Oper) (st st':St):Prop where
 sl:∀t∈o.looksAt ops,st.sl t=st'.sl t
 lp:∀t∈o.looksAt ops,st.lp t=st'.lp t
 bx:∀k,(zK X.P C.pf F o=.rd k\/zK X.P C.pf F o=.rdm/\wX F.cap k=true)->(∃t off,st.lp t=some (k,off))->st.bx k=st'.bx k
 bl:∀k,((∃off n,zK X.P C.pf F o=.wr k off n)\/zK X.P C.pf F o=.sto/\wX F.cap k=true)->(∃t off,st.lp t=some (k,off))->(st.bx k).map (·.length)=(st'.bx k).map (·.length)
 nb:zK X.P C.pf F o=.make->∀x,o.dst=some x->(st.bx x=none↔st'.bx x=none)
 m:(zK X.P C.pf F o=.mem\/zK X.P C.pf F o=.st)->st.m=st'.m
 ms:zK X.P C.pf F o=.sto->∀id,inM m0 id=true->st.m.boxes[id]?=st'.m.boxes[id]?
 mf:zK X.P C.pf F o=.stf->∀id,inM m0 id=false->st.m.boxes[id]?=st'.m.boxes[id]?
section
variable {X:Ctx} {F:Fi} {C:wC} {m0:Mem} {st st':St} {ops:Array Oper} {o:Oper}
theorem zKy {t:Nat} (h:Operand.tmp t∈o.op.operands):t∈o.looksAt ops:=
 List.mem_append_left _ (List.mem_filterMap.2 ⟨.tmp t,by simpa using h,rfl⟩)
theorem zJk.ev (h:zJk X F C m0 ops o st st') {x:Operand} (hx:x∈o.op.operands):ev X st x=ev X st' x:=by
 cases x with
 |tmp t=>exact h.sl t (zKy hx)
 |const v=>rfl
 |global g=>rfl
 |func f=>rfl
theorem zJk.reg (h:zJk X F C m0 ops o st st') {x:Operand} (hx:x∈o.op.operands):wP st x=wP st' x:=by
 cases x with
 |tmp t=>exact h.lp t (zKy hx)
 |const v=>rfl
 |global g=>rfl
 |func f=>rfl
theorem zMf :∀(l:List Operand),(∀x∈l,ev X st x=ev X st' x)->vB X st l=vB X st' l
 |[],_=>rfl
 |x::r,h=>by
  simp only[vB]
  rw[h x (List.mem_cons_self ..),zMf r (λy hy=>h y (List.mem_cons_of_mem _ hy))]
theorem zDa :∀(l:List (Nat×Operand)),(∀x∈l,ev X st x.2=ev X st' x.2)->wH X st l=wH X st' l
 |[],_=>rfl
 |x::r,h=>by
  obtain⟨i,x⟩:=x
  simp only[wH]
  rw[h (i,x) (List.mem_cons_self ..),zDa r (λy hy=>h y (List.mem_cons_of_mem _ hy))]
theorem zNp {z:Option Int} {x:Option Operand} (h:∀y,x=some y->ev X st y=ev X st' y):zMl X st z x=zMl X st' z x:=by
 cases x with
 |none=>rfl
 |some y=>simp only[zMl];rw[h y rfl]
theorem zVe (h:zJk X F C m0 ops o st st') (hp:∀t p,o.op=.load t p->zEi X m0 st p=zEi X m0 st' p):zT X m0 st o.op=zT X m0 st' o.op:=by
 have ev_:=λx hx=>h.ev (x:=x) hx
 obtain⟨dst,op,ty,pos,af,gd⟩:=o
 cases op<;>simp only[Op.operands] at ev_<;>first|rfl|skip
 case move x=>simp only[zT];rw[ev_ x (by simp)]
 case assign x=>simp only[zT];rw[ev_ x (by simp)]
 case pick c x y=>simp only[zT];rw[ev_ c (by simp),ev_ x (by simp),ev_ y (by simp)]
 case load t p=>simp only[zT];rw[hp t p rfl]
 case nilCheck x=>simp only[zT];rw[ev_ x (by simp)]
 case binOp op t x y u=>simp only[zT];rw[ev_ x (by simp),ev_ y (by simp)]
 case unOp op t x=>simp only[zT];rw[ev_ x (by simp)]
 case convert s t x=>simp only[zT];rw[ev_ x (by simp)]
 case makeFunc f a b=>
  cases f<;>first|rfl|skip
  simp only[zT]
  have:b.toList.map (ev X st)=b.toList.map (ev X st'):=List.map_congr_left λx hx=>ev_ x (by simp;right;simpa using hx)
  rw[this]
 case field t x i=>simp only[zT];rw[ev_ x (by simp)]
 case build t ps=>
  simp only[zT]
  rw[zDa ps.toList (λx hx=>ev_ x.2 (by simp;exact⟨x.1,by simpa using hx⟩))]
 case fieldAddr t x i=>simp only[zT];rw[ev_ x (by simp)]
 case indexAddr t x i=>simp only[zT];rw[ev_ x (by simp),ev_ i (by simp)]
 case index t x i=>simp only[zT];rw[ev_ x (by simp),ev_ i (by simp)]
 case extract x i=>simp only[zT];rw[ev_ x (by simp)]
 case slice t x lo hi mx=>
  have hx:=ev_ x (by simp)
  have hlo:∀z,zMl X st z lo=zMl X st' z lo:=λz=>zNp λy hy=>ev_ y (by subst hy;simp)
  have hhi:∀z,zMl X st z hi=zMl X st' z hi:=λz=>zNp λy hy=>ev_ y (by subst hy;simp)
  cases mx with
  |none=>simp only[zT,hx,hlo,hhi]
  | some m=>
   cases lo with
   |some l=>rfl
   | none=>
    cases hi with
    |none=>rfl
    |some hh=>
     simp only[zT]
     rw[hx,ev_ hh (by simp),ev_ m (by simp)]
 case call c=>
  obtain⟨callee,args,tys⟩:=c
  cases callee<;>first|rfl|skip
  rename_i b
  have two:∀(lo:Bool),(match args.toList with|x::r=>zYu lo (ev X st x) (r.map (ev X st))|_=>none)=(match args.toList with|x::r=>zYu lo (ev X st' x) (r.map (ev X st'))|_=>none):=λlo=>by
   split
   ·rename_i x r hx
    have hm:∀y∈x::r,ev X st y=ev X st' y:=λy hy=>ev_ y (by simp[Call.operands];rw[<-hx] at hy;simpa using hy)
    rw[hm x (List.mem_cons_self ..),List.map_congr_left λy hy=>hm y (List.mem_cons_of_mem _ hy)]
   ·rfl
  cases b<;>first|rfl|exact two true|exact two false|skip
  simp only[zT]
  split
  ·rename_i x t hx ht
   have:x∈args:=by
    have:x∈args.toList:=by rw[hx];simp
    simpa using this
   rw[ev_ x (by simp[Call.operands];exact this)]
  ·rfl
theorem zVg (h:zJk X F C m0 ops o st st') (bx:Bool) (m:Mem):wO X bx m st o.op=wO X bx m st' o.op:=by
 have ev_:=λx hx=>h.ev (x:=x) hx
 obtain⟨dst,op,ty,pos,af,gd⟩:=o
 cases op<;>simp only[Op.operands] at ev_<;>first|rfl|skip
 case convert s t x=>simp only[wO];rw[ev_ x (by simp)]
 case makeSlice t l c=>simp only[wO];rw[ev_ l (by simp),ev_ c (by simp)]
 case call c=>
  obtain⟨callee,args,tys⟩:=c
  cases callee<;>first|rfl|skip
  rename_i b
  have mem:∀s,s∈args.toList->ev X st s=ev X st' s:=λs hs=>ev_ s (by simp[Call.operands];simpa using hs)
  cases b<;>first|rfl|skip
  all_goals
   simp only[wO]
   split
   ·first
     |(rename_i s x t u hs ht;rw[mem s (by rw[hs];simp),mem x (by rw[hs];simp)])
     |(rename_i s t hs ht;rw[mem s (by rw[hs];simp)])
   ·rfl
theorem zZw (h:zJk X F C m0 ops o st st'):yBb X st o.op=yBb X st' o.op:=by
 have ev_:=λx hx=>h.ev (x:=x) hx
 obtain⟨dst,op,ty,pos,af,gd⟩:=o
 cases op<;>simp only[Op.operands] at ev_<;>first|rfl|skip
 case buildSlice t n ps=>
  simp only[yBb]
  rw[zDa ps.toList (λx hx=>ev_ x.2 (by simp;exact⟨x.1,by simpa using hx⟩))]
theorem zFm {a b:Option (Nat×Nat)} (h:eqR F a b=true):a=b\/∃k o,a=some (k,o)/\b=none/\wX F.cap k=true:=by
 unfold eqR at h
 split at h
 ·exact .inl rfl
 ·simp only[Bool.and_eq_true,decide_eq_true_eq] at h;rw[h.1,h.2];exact .inl rfl
 ·exact .inr ⟨_,_,rfl,rfl,h⟩
 ·cases h
theorem zMa (h:zJk X F C m0 ops o st st'):uJ X F C m0 o st=uJ X F C m0 o st':=by
 have ev_:=λx hx=>h.ev (x:=x) hx
 have reg_:=λx hx=>h.reg (x:=x) hx
 have pure_:=λhp=>zVe (m0:=m0) h hp
 have make_:=λbx m=>zVg h bx m
 have bx_:=h.bx
 have bl_:=h.bl
 have nb_:=h.nb
 have m_:=h.m
 have ms_:=h.ms
 have mf_:=h.mf
 have looks:=λt ht=>zKy (ops:=ops) (o:=o) (t:=t) ht
 obtain⟨dst,op,ty,pos,af,gd⟩:=o
 have alloc_:∀cs,zK X.P C.pf F (⟨dst,op,ty,pos,af,gd⟩:Oper)=(match dst with|some x=>(match wX F.esc x with|true=>.mem|false=>.make)|none=>.make)->zAv F ⟨dst,op,ty,pos,af,gd⟩ cs st=zAv F ⟨dst,op,ty,pos,af,gd⟩ cs st':=λcs hk=>by
  unfold zAv
  cases dst with
  |none=>rfl
  | some x=>
   simp only at hk ⊢
   cases he:wX F.esc x with
   |true=>
    rw[he] at hk
    rw[m_ (.inl hk)]
   | false=>
    rw[he] at hk
    have hn:=nb_ hk x rfl
    cases h1:st.bx x with
    |none=>rw[hn.1 h1]
    |some c=>
     cases h2:st'.bx x with
     |none=>rw[hn.2 h2] at h1;cases h1
     |some c'=>rfl
 cases op<;>simp only[Op.operands] at ev_ reg_ looks<;>first|rfl|(simp only[uJ,zAs];rw[pure_ (λ_ _ e=>by cases e)];done)|skip
 case alloc t=>
  simp only[uJ]
  split
  ·exact alloc_ _ rfl
  ·rfl
 case box t v=>
  simp only[uJ]
  rw[ev_ v (by simp)]
  split
  ·split
   ·exact alloc_ _ rfl
   ·rfl
  ·rfl
 case buildSlice t n ps=>
  have:=zZw h
  simp only[uJ,yOz]
  rw[this]
 case convert s t x=>
  simp only[uJ]
  cases hb:wA X.P s&&xB X.P t with
  |true=>simp only[zEj];rw[m_ (.inl (by unfold zK;simp only[hb])),make_]
  |false=>simp only[zAs];rw[pure_ (λ_ _ e=>by cases e)]
 case makeSlice t l c=>simp only[uJ,zEj];rw[m_ (.inl rfl),make_]
 case load t p=>
  have hl:qZ F st p=qZ F st' p:=by unfold qZ;rw[reg_ p (by simp)]
  simp only[uJ]
  rw[<-hl]
  cases hl':qZ F st p with
  |false=>rfl
  | true=>
   simp only[zAs]
   rw[pure_ λt' p' e=>?_]
   cases e
   have hr:=zFm hl'
   cases p with
   | tmp x=>
    have h1:st.lp x=st'.lp x:=reg_ (.tmp x) (by simp)
    have h2:st.sl x=st'.sl x:=ev_ (.tmp x) (by simp)
    simp only[zEi,<-h1,<-h2]
    cases hx:st.lp x with
    |none=>rfl
    | some ko=>
     obtain⟨k,off⟩:=ko
     simp only
     have hkk:zK X.P C.pf F (⟨dst,.load t (.tmp x),ty,pos,af,gd⟩:Oper)=.rd k\/zK X.P C.pf F (⟨dst,.load t (.tmp x),ty,pos,af,gd⟩:Oper)=.rdm/\wX F.cap k=true:=by
      rcases hr with hr|⟨k',o',h1,h2,h3⟩
      ·left
       have hk:zMp F (.tmp x)=some (k,off):=by rw[<-hr];exact hx
       unfold zK;simp only[hk]
      ·right
       have e:some (k',o')=some (k,off):=h1.symm.trans hx
       cases e
       exact⟨by unfold zK;simp only[h2],h3⟩
     rw[bx_ k hkk ⟨x,off,hx⟩]
   |const v=>simp only[zEi];rw[ev_ (.const v) (by simp)]
   |global g=>simp only[zEi];rw[ev_ (.global g) (by simp)]
   |func f=>simp only[zEi];rw[ev_ (.func f) (by simp)]
 case store t p v=>
  have hl:qZ F st p=qZ F st' p:=by unfold qZ;rw[reg_ p (by simp)]
  simp only[uJ]
  cases dst with
  |some x=>rfl
  | none=>
   simp only[zHk]
   rw[<-hl,<-reg_ p (by simp),<-ev_ v (by simp),<-ev_ p (by simp)]
   cases hl':qZ F st p with
   |false=>rfl
   | true=>
    simp only
    have hr':=zFm hl'
    cases hr:wP st p with
    | none=>
     simp only
     rw[hr] at hr'
     have hr':zMp F p=none:=by
      rcases hr' with hr'|⟨k',o',h1,_⟩
      ·exact hr'.symm
      ·cases h1
     cases hp:ev X st p<;>first|rfl|skip
     rename_i id off
     simp only
     cases hfr:zTd F p with
     |true=>
      have:=mf_ (by unfold zK;simp only[hr',hfr]) id
      simp only[yBp,hfr,cond_true]
      cases hin:inM m0 id with
      |false=>rw[zDw (this hin)]
      |true=>cases uN st.m id<;>cases uN st'.m id<;>cases yS X.P t<;>rfl
     |false=>
      have:=ms_ (by unfold zK;simp only[hr',hfr]) id
      simp only[yBp,hfr,cond_false]
      cases hin:inM m0 id with
      |true=>rw[zDw (this hin)]
      |false=>cases uN st.m id<;>cases uN st'.m id<;>cases yS X.P t<;>rfl
    | some ko=>
     obtain⟨k,off⟩:=ko
     simp only
     rw[hr] at hr'
     cases hn:yS X.P t with
     |none=>cases st.bx k<;>cases st'.bx k<;>rfl
     | some n=>
      have hreg:∃t off,st.lp t=some (k,off):=by
       cases p with
       |tmp x=>exact⟨x,off,hr⟩
       |const v=>cases hr
       |global g=>cases hr
       |func f=>cases hr
      cases hno:zTd F p with
      |true=>cases st.bx k<;>cases st'.bx k<;>simp
      |false=>
      have hno:¬zTd F p=true:=by rw[hno];simp
      have hb:=bl_ k (by
       rcases hr' with hr'|⟨k',o',h1,h2,h3⟩
       ·exact .inl ⟨off,n,by unfold zK;simp only[<-hr',hn]⟩
       ·cases h1
        cases hfr:zTd F p with
        |true=>exact absurd hfr hno
        |false=>exact .inr ⟨by unfold zK;simp only[h2,hfr],h3⟩) hreg
      cases h1:st.bx k<;>cases h2:st'.bx k<;>rw[h1,h2] at hb<;>simp only[Option.map_some,Option.map_none,reduceCtorEq,Option.some.injEq] at hb
      simp only[hb]
 case nilCheck x=>
  simp only[uJ]
  rw[<-reg_ x (by simp)]
  split
  ·rfl
  ·simp only[zAs];rw[pure_ (λ_ _ e=>by cases e)]
 case fieldAddr t x i=>
  simp only[uJ]
  rw[<-reg_ x (by simp)]
  split
  ·rfl
  ·simp only[zAs];rw[pure_ (λ_ _ e=>by cases e)]
 case call c=>
  obtain⟨callee,args,tys⟩:=c
  cases callee with
  |value f=>
   simp only[uJ]
   rw[<-ev_ f (by simp[Call.operands]),<-zMf args.toList (λx hx=>ev_ x (by simp[Call.operands];right;simpa using hx))]
  |invoke r m=>rfl
  | builtin b=>
   cases b<;>first|rfl|(simp only[uJ,zAs];rw[pure_ (λ_ _ e=>by cases e)];done)|skip
   all_goals first
    |(simp only[uJ,zEj];rw[m_ (by simp only[zK];cases mkB F dst<;>simp),make_];done)
    |(simp only[uJ,zEj];rw[m_ (.inr rfl),make_])
theorem zSx (h:zJk X F C m0 ops o st st') {j:Nat} {want:Bool} (hg:o.guard=some (j,want)):vE ops.toList st j=vE ops.toList st' j:=by
 have hd:=zDb ops.toList 0 j
 rw[Nat.zero_add] at hd
 unfold vE
 rw[hd]
 have e:ops.toList[j]?=ops[j]?:=by simp
 rw[e]
 cases hx:(ops[j]?).bind (·.dst) with
 |none=>rfl
 |some x=>
  simp only
  rw[h.sl x (List.mem_append_right _ (by rw[hg];simp[hx]))]
theorem zNy (h:zJk X F C m0 ops o st st'):zCd X F C m0 ops.toList o st=zCd X F C m0 ops.toList o st':=by
 unfold zCd
 cases hg:o.guard with
 |none=>exact zMa h
 |some jw=>
  obtain⟨j,want⟩:=jw
  simp only
  rw[zSx h hg,zMa h]
end
def WfR (st:St):Prop:=∀x k off,st.lp x=some (k,off)->st.bx k≠none
def uP (X:Ctx) (F:Fi) (C:wC) (m0:Mem) (o:Oper) (st:St):Eff->Prop
 |.put _=>True
 |.putM _ _=>zK X.P C.pf F o=.mem\/zK X.P C.pf F o=.st
 |.putL k _=>st.bx k≠none/\o.dst≠none
 |.stay=>o.dst=none
 |.newBox _=>zK X.P C.pf F o=.make/\∃x,o.dst=some x/\st.bx x=none
 |.wr k off ds=>(zK X.P C.pf F o=.wr k off ds.length/\wX F.cap k=false\/zK X.P C.pf F o=.sto/\wX F.cap k=true)/\o.dst=none/\∃cs,st.bx k=some cs/\off+ds.length<=cs.length
 |.wrM id _ _=>(zK X.P C.pf F o=.sto/\inM m0 id=true\/zK X.P C.pf F o=.stf/\inM m0 id=false)/\o.dst=none
theorem setRow_len :∀(ds cs:List D) (o:Nat),(setRow cs o ds).length=cs.length
 |[],_,_=>rfl
 |d::r,cs,o=>by simp only[setRow];rw[setRow_len r];simp
theorem zNl :∀(ds cs:List D) (o j:Nat),(setRow cs o ds)[j]?=if o<=j/\j<o+ds.length/\j<cs.length then ds[j-o]? else cs[j]?
 |[],cs,o,j=>by simp only[setRow,List.length_nil];rw[if_neg (by omega)]
 | d::r,cs,o,j=>by
  simp only[setRow]
  rw[zNl r,List.length_set,List.length_cons]
  by_cases h1:o+1<=j/\j<o+1+r.length/\j<cs.length
  ·rw[if_pos h1,if_pos (by omega),show j-o=(j-(o+1))+1 by omega,List.getElem?_cons_succ]
  ·rw[if_neg h1]
   by_cases h2:o=j
   ·subst h2
    by_cases h3:o<cs.length
    ·rw[if_pos (by omega),List.getElem?_set_self h3];simp
    ·rw[if_neg (by omega),List.getElem?_eq_none (by simp;omega),List.getElem?_eq_none (by omega)]
   ·rw[List.getElem?_set_ne h2,if_neg (by omega)]
theorem zOk {bs:List (List D)} {id i:Nat} (off:Nat) (ds:List D) (_x:Unit) (h:id≠i):(wrB bs id off ds)[i]?=bs[i]?:=by
 unfold wrB
 split
 ·exact List.getElem?_set_ne h
 ·rfl
theorem yIh {bs:List (List D)} {i j:Nat} (o1 o2:Nat) (d1 d2:List D) (h:i≠j):wrB (wrB bs i o1 d1) j o2 d2=wrB (wrB bs j o2 d2) i o1 d1:=by
 have e1:=zOk (bs:=bs) o1 d1 () h
 have e2:=zOk (bs:=bs) o2 d2 () (Ne.symm h)
 rw[show wrB (wrB bs i o1 d1) j o2 d2=(match (wrB bs i o1 d1)[j]? with|some cs=>(wrB bs i o1 d1).set j (setRow cs o2 d2)|none=>wrB bs i o1 d1) from rfl,show wrB (wrB bs j o2 d2) i o1 d1=(match (wrB bs j o2 d2)[i]? with|some cs=>(wrB bs j o2 d2).set i (setRow cs o1 d1)|none=>wrB bs j o2 d2) from rfl,e1,e2]
 unfold wrB
 cases bs[i]?<;>cases bs[j]?<;>simp only
 exact List.set_comm _ _ h
theorem zLq (cs:List D) (o1 o2:Nat) (d1 d2:List D) (h:o1+d1.length<=o2):setRow (setRow cs o1 d1) o2 d2=setRow (setRow cs o2 d2) o1 d1:=by
 apply List.ext_getElem?
 intro j
 simp only[zNl,setRow_len]
 by_cases h1:o2<=j/\j<o2+d2.length/\j<cs.length<;>by_cases h2:o1<=j/\j<o1+d1.length/\j<cs.length
 ·omega
 ·rw[if_pos h1,if_neg h2,if_pos h1]
 ·rw[if_neg h1,if_pos h2,if_pos h2]
 ·rw[if_neg h1,if_neg h2,if_neg h2,if_neg h1]
section
variable {X:Ctx} {F:Fi} {C:wC} {m0:Mem} {st st':St} {ops:Array Oper} {o oi oj:Oper}
theorem zRq {p:Operand} {k o:Nat} (h:zMp F p=some (k,o)):wX F.cap k=false:=by
 unfold zMp at h
 split at h
 ·split at h
  ·split at h
   ·cases h
   ·rename_i hc;cases h;exact hc
  ·cases h
 ·cases h
theorem yRe {k:Nat} (h:zK X.P C.pf F o=.rd k):wX F.cap k=false:=by
 unfold zK at h
 repeat' split at h
 all_goals first
  |(cases h;done)
  |(cases h;exact zRq (by assumption))
theorem zYc (hw:WfR st) {e:Eff} (h:uJ X F C m0 o st=some (.eff e)):uP X F C m0 o st e:=by
 have pure_:zAs X m0 o st=some (.eff e)->uP X F C m0 o st e:=λh=>by
  unfold zAs at h;split at h<;>cases h;trivial
 have make_:(zK X.P C.pf F o=.mem\/zK X.P C.pf F o=.st)->zEj X F o st=some (.eff e)->uP X F C m0 o st e:=λhk h=>by
  unfold zEj at h;split at h<;>cases h;exact hk
 have alloc_:∀cs,zK X.P C.pf F o=(match o.dst with|some x=>(match wX F.esc x with|true=>.mem|false=>.make)|none=>.make)->zAv F o cs st=some (.eff e)->uP X F C m0 o st e:=λcs hk h=>by
  unfold zAv at h
  split at h
  ·rename_i x hx
   rw[hx] at hk
   simp only at hk
   split at h
   ·rename_i he
    rw[he] at hk
    cases h;exact .inl hk
   ·rename_i he
    rw[he] at hk
    split at h
    ·rename_i h2
     cases h;exact⟨hk,x,hx,h2⟩
    ·cases h
  ·cases h
 unfold uJ at h
 split at h<;>rename_i hop
 ·split at h
  ·exact alloc_ _ (by unfold zK;simp only[hop];rfl) h
  ·cases h
 ·split at h
  ·split at h
   ·exact alloc_ _ (by unfold zK;simp only[hop];rfl) h
   ·cases h
  ·cases h
 ·rename_i t p v
  split at h
  ·rename_i hd
   unfold zHk at h
   split at h
   ·rename_i hlk
    have hr':=zFm hlk
    split at h
    ·rename_i key off hr
     rw[hr] at hr'
     split at h
     ·rename_i cs n hb hn
      split at h
      ·rename_i hc
       simp only[Bool.and_eq_true,decide_eq_true_eq,Bool.not_eq_true'] at hc
       obtain⟨hfr,hc⟩:=hc
       cases h
       refine⟨?_,hd,cs,hb,by rw[hc.1.2];exact hc.2⟩
       rcases hr' with hr'|⟨k',o',h1,h2,h3⟩
       ·exact .inl ⟨by unfold zK;rw[hop];simp only[<-hr',hn];rw[hc.1.2],zRq hr'.symm⟩
       ·cases h1
        exact .inr ⟨by unfold zK;rw[hop];simp only[h2,hfr],h3⟩
      ·cases h
     ·cases h
    ·rename_i hr
     rw[hr] at hr'
     split at h
     ·split at h
      ·split at h
       ·rename_i hc
        simp only[Bool.and_eq_true] at hc
        have hc:=hc.1
        cases h
        have hr':=hr'.elim (λh=>h.symm) (λ⟨k',o',h1,_⟩=>by cases h1)
        refine⟨?_,hd⟩
        unfold yBp at hc
        cases hfr:zTd F p with
        |true=>
         rw[hfr] at hc
         exact .inr ⟨by unfold zK;rw[hop];simp only[hr',hfr],by simpa using hc⟩
        |false=>
         rw[hfr] at hc
         exact .inl ⟨by unfold zK;rw[hop];simp only[hr',hfr],by simpa using hc⟩
       ·cases h
      ·cases h
     ·cases h
   ·cases h
  ·cases h
 ·split at h
  ·split at h<;>cases h;trivial
  ·split at h
   ·split at h<;>cases h
   ·cases h
   ·cases h
 ·exact make_ (by unfold zK;rw[hop];simp only[];cases mkB F o.dst<;>simp) h
 ·exact make_ (.inr (by unfold zK;rw[hop])) h
 ·exact make_ (.inr (by unfold zK;rw[hop])) h
 ·unfold yOz at h;split at h<;>cases h;trivial
 ·exact pure_ h
 ·exact pure_ h
 ·exact pure_ h
 ·rename_i t p i
  split at h
  ·rename_i key off hr
   split at h
   ·rename_i n x hn hx
    cases h
    refine⟨?_,by rw[hx];simp⟩
    cases p with
    |tmp x=>exact hw x key off hr
    |const v=>cases hr
    |global g=>cases hr
    |func f=>cases hr
   ·cases h
  ·exact pure_ h
 ·rename_i p
  split at h
  ·rename_i key off hr
   split at h
   ·rename_i x hx
    cases h
    refine⟨?_,by rw[hx];simp⟩
    cases p with
    |tmp x=>exact hw x key off hr
    |const v=>cases hr
    |global g=>cases hr
    |func f=>cases hr
   ·rename_i hx;cases h;exact hx
  ·exact pure_ h
 ·split at h
  ·exact pure_ h
  ·cases h
 ·exact make_ (.inl (by unfold zK;rw[hop])) h
 ·split at h
  ·rename_i hb;exact make_ (.inl (by unfold zK;rw[hop];simp only[hb])) h
  ·exact pure_ h
 all_goals first|exact pure_ h|cases h
theorem zCr (hw:WfR st) {all:List Oper} {e:Eff} (h:zCd X F C m0 all o st=some (.eff e)):uP X F C m0 o st e:=by
 unfold zCd at h
 split at h
 ·exact zYc hw h
 ·split at h
  ·split at h
   ·exact zYc hw h
   ·cases h;trivial
  ·cases h;trivial
  ·cases h
def zQo (b:Bool):Kd:=match b with|true=>.st|false=>.mem
theorem zLh (b:Bool):zQo b=.mem\/zQo b=.st:=by cases b<;>simp[zQo]
theorem zGb {all:List Oper} {b:Bool} {g:Nat} {ds:List D} (h:zCd X F C m0 all o st=some (.call b g ds)):zK X.P C.pf F o=zQo b:=by
 have main:uJ X F C m0 o st=some (.call b g ds)->zK X.P C.pf F o=zQo b:=λh=>by
  have pure_:zAs X m0 o st≠some (.call b g ds):=λh=>by
   unfold zAs at h;split at h<;>cases h
  have make_:zEj X F o st≠some (.call b g ds):=λh=>by
   unfold zEj at h;split at h<;>cases h
  have alloc_:∀cs,zAv F o cs st≠some (.call b g ds):=λcs h=>by
   unfold zAv at h
   repeat' split at h
   all_goals cases h
  have store_:∀t p v,zHk X F m0 t p v st≠some (.call b g ds):=λt p v h=>by
   unfold zHk at h
   repeat' split at h
   all_goals cases h
  unfold uJ at h
  split at h<;>rename_i hop
  ·split at h
   ·exact absurd h (alloc_ _)
   ·cases h
  ·split at h
   ·split at h
    ·exact absurd h (alloc_ _)
    ·cases h
   ·cases h
  ·split at h
   ·exact absurd h (store_ _ _ _)
   ·cases h
  ·split at h
   ·split at h<;>cases h
   ·rename_i hp
    split at h
    ·split at h
     ·cases h
      unfold zK
      rw[hop]
      simp only
      rw[hp]
      rfl
     ·cases h
    ·cases h
     unfold zK
     rw[hop]
     simp only
     rw[hp]
     rfl
    ·cases h
  ·exact absurd h make_
  ·exact absurd h make_
  ·exact absurd h make_
  ·unfold yOz at h;split at h<;>cases h
  ·exact absurd h pure_
  ·exact absurd h pure_
  ·exact absurd h pure_
  ·split at h
   ·split at h<;>cases h
   ·exact absurd h pure_
  ·split at h
   ·split at h<;>cases h
   ·exact absurd h pure_
  ·split at h
   ·exact absurd h pure_
   ·cases h
  ·exact absurd h make_
  ·split at h
   ·exact absurd h make_
   ·exact absurd h pure_
  all_goals first|exact absurd h pure_|cases h
 unfold zCd at h
 split at h
 ·exact main h
 ·split at h
  ·split at h
   ·exact main h
   ·cases h
  ·cases h
  ·cases h
theorem zDj (e:Eff) (dst:Option Nat) (st:St) {t:Nat} (ht:dst≠some t):(e.apply dst st).sl t=st.sl t:=by
 cases dst with
 |none=>cases e<;>rfl
 |some x=>
  have hx:t≠x:=λe=>ht (by rw[e])
  cases e<;>simp[Eff.apply,St.put,St.putL,St.newBox,St.setM,yA _ _ hx]
theorem yNd (st:St) (dst:Option Nat) (d:D) {t:Nat} (ht:dst≠some t):(st.put dst d).lp t=st.lp t:=by
 cases dst with
 |none=>rfl
 |some x=>
  have hx:t≠x:=λe=>ht (by rw[e])
  simp only[St.put,zJl]
  cases st.lp x with
  |none=>rfl
  |some q=>exact yA _ _ hx
theorem zBm (e:Eff) (he:uP X F C m0 o st e) {t:Nat} (ht:o.dst≠some t):(e.apply o.dst st).lp t=st.lp t:=by
 cases e with
 |put d=>exact yNd st _ d ht
 |putM d m=>exact yNd st _ d ht
 |stay=>rfl
 |wr k off ds=>rfl
 |wrM id off ds=>rfl
 | putL k off=>
  simp only[Eff.apply]
  cases hd:o.dst with
  |none=>rfl
  |some x=>
   have hx:t≠x:=λe=>ht (by rw[hd,e])
   simp[St.putL,yA _ _ hx]
 |newBox cs=>
  obtain⟨_,x,hd,hb⟩:=he
  have hx:t≠x:=λe=>ht (by rw[hd,e])
  simp only[Eff.apply,hd,St.newBox,hb,zNa]
  rw[yA _ _ hx]
theorem zYq {e:Eff} (hi:uP X F C m0 oi st e) (hw:WfR st) (hap:∀d,oi.dst=some d->d∉oj.looksAt ops) (hdd:∀d,oi.dst=some d->oj.dst≠some d) (hk:vU (zK X.P C.pf F oi) (zK X.P C.pf F oj)=true) :
  zJk X F C m0 ops oj st (e.apply oi.dst st) where
 sl:=λt ht=>(zDj e oi.dst st (λh=>hap t h ht)).symm
 lp:=λt ht=>(zBm e hi (λh=>hap t h ht)).symm
 bx :=λk hkj hreg=>by
  cases e with
  |put d=>cases oi.dst<;>rfl
  |putM d m=>cases oi.dst<;>rfl
  |stay=>rfl
  |putL k off=>simp only[Eff.apply];cases oi.dst<;>rfl
  |wrM id off ds=>rfl
  |newBox cs=>
   obtain⟨h2,x,hd,hb⟩:=hi
   simp only[Eff.apply,hd,St.newBox]
   by_cases hne:k=x
   ·subst hne;obtain⟨t,off,ht⟩:=hreg;exact absurd hb (hw t k off ht)
   ·rw[yA _ _ hne]
  | wr k' off ds=>
   obtain⟨h3,_,cs,hb,_⟩:=hi
   simp only[Eff.apply,hb]
   have hne:k≠k':=λe=>by
    subst e
    rcases h3 with⟨h3,hc⟩|⟨h3,hc⟩<;>rcases hkj with h4|⟨h4,hc'⟩
    ·rw[h3,h4] at hk;simp[vU] at hk
    ·rw[hc] at hc';cases hc'
    ·rw[yRe h4] at hc;cases hc
    ·rw[h3,h4] at hk;cases hk
   rw[yA _ _ hne]
 bl:=λk hkj hreg=>by
  cases e with
  |put d=>cases oi.dst<;>rfl
  |putM d m=>cases oi.dst<;>rfl
  |stay=>rfl
  |putL k off=>simp only[Eff.apply];cases oi.dst<;>rfl
  |wrM id off ds=>rfl
  |newBox cs=>
   obtain⟨h2,x,hd,hb⟩:=hi
   simp only[Eff.apply,hd,St.newBox]
   by_cases hne:k=x
   ·subst hne;obtain⟨t,off,ht⟩:=hreg;exact absurd hb (hw t k off ht)
   ·rw[yA _ _ hne]
  |wr k' off' ds=>
   obtain⟨h3,_,cs,hb,_⟩:=hi
   simp only[Eff.apply,hb]
   by_cases hne:k=k'
   ·subst hne;rw[yP,hb];simp only[Option.map_some,setRow_len]
   ·rw[yA _ _ hne]
 nb :=λhkj x hx=>by
  cases e with
  |put d=>cases oi.dst<;>exact Iff.rfl
  |putM d m=>cases oi.dst<;>exact Iff.rfl
  |stay=>exact Iff.rfl
  |wrM id off ds=>exact Iff.rfl
  |putL k off=>simp only[Eff.apply];cases oi.dst<;>exact Iff.rfl
  |newBox cs=>
   obtain⟨_,y,hd,hb⟩:=hi
   simp only[Eff.apply,hd,St.newBox]
   have hne:x≠y:=λe=>hdd y hd (by rw[hx,e])
   rw[yA _ _ hne]
  | wr k' off cs=>
   obtain⟨h3,_,c0,hb,_⟩:=hi
   simp only[Eff.apply,hb]
   by_cases hxk:x=k'
   ·subst hxk
    rw[yP,hb]
    exact⟨λh=>(by cases h),λh=>(by cases h)⟩
   ·rw[yA _ _ hxk]
 m :=λhkj=>by
  cases e with
  |put d=>cases oi.dst<;>rfl
  |stay=>rfl
  |putL k off=>simp only[Eff.apply];cases oi.dst<;>rfl
  |newBox cs=>obtain⟨_,y,hd,hb⟩:=hi;simp only[Eff.apply,hd];rfl
  |wr k' off cs=>rfl
  |wrM id off ds=>
   rcases hi.1 with⟨this,_⟩|⟨this,_⟩<;>rw[this] at hk<;>rcases hkj with h|h<;>rw[h] at hk<;>cases hk
  |putM d m=>
   have:zK X.P C.pf F oi=.mem\/zK X.P C.pf F oi=.st:=hi
   rcases this with this|this<;>rw[this] at hk<;>rcases hkj with h|h<;>rw[h] at hk<;>cases hk
 ms :=λhkj i hin=>by
  cases e with
  |put d=>cases oi.dst<;>rfl
  |stay=>rfl
  |putL k off=>simp only[Eff.apply];cases oi.dst<;>rfl
  |newBox cs=>obtain⟨_,y,hd,hb⟩:=hi;simp only[Eff.apply,hd];rfl
  |wr k' off cs=>rfl
  | wrM id off ds=>
   rcases hi.1 with⟨this,h0⟩|⟨this,h0⟩
   ·rw[this,hkj] at hk;cases hk
   ·have hne:id≠i:=λe=>by rw[e,hin] at h0;cases h0
    exact(zOk _ _ () hne).symm
  |putM d m=>
   have:zK X.P C.pf F oi=.mem\/zK X.P C.pf F oi=.st:=hi
   rcases this with this|this<;>rw[this,hkj] at hk<;>cases hk
 mf :=λhkj i hin=>by
  cases e with
  |put d=>cases oi.dst<;>rfl
  |stay=>rfl
  |putL k off=>simp only[Eff.apply];cases oi.dst<;>rfl
  |newBox cs=>obtain⟨_,y,hd,hb⟩:=hi;simp only[Eff.apply,hd];rfl
  |wr k' off cs=>rfl
  | wrM id off ds=>
   rcases hi.1 with⟨this,h0⟩|⟨this,h0⟩
   ·have hne:id≠i:=λe=>by rw[e,hin] at h0;cases h0
    exact(zOk _ _ () hne).symm
   ·rw[this,hkj] at hk;cases hk
  |putM d m=>
   have:zK X.P C.pf F oi=.mem\/zK X.P C.pf F oi=.st:=hi
   rcases this with this|this<;>rw[this,hkj] at hk<;>cases hk
theorem St.ext' {a b:St} (h1:∀t,a.sl t=b.sl t) (h2:∀t,a.lp t=b.lp t) (h3:∀k,a.bx k=b.bx k) (h4:a.m=b.m):a=b:=by
 obtain⟨s1,l1,b1,m1⟩:=a
 obtain⟨s2,l2,b2,m2⟩:=b
 have e1:s1=s2:=funext h1
 have e2:l1=l2:=funext h2
 have e3:b1=b2:=funext h3
 have e4:m1=m2:=h4
 rw[e1,e2,e3,e4]
theorem yXo {e:Eff} {s s':St} (he:uP X F C m0 o s e) {x:Nat} (hd:o.dst=some x):(e.apply o.dst s).sl x=(e.apply o.dst s').sl x:=by
 rw[hd]
 cases e with
 |put d=>simp[Eff.apply,St.put,yP]
 |putM d m=>simp[Eff.apply,St.put,St.setM,yP]
 |putL k off=>simp[Eff.apply,St.putL,yP]
 |stay=>rw[show o.dst=none from he] at hd;cases hd
 |newBox cs=>simp[Eff.apply,St.newBox,yP]
 |wr k off cs=>rw[he.2.1] at hd;cases hd
 |wrM id off ds=>rw[he.2] at hd;cases hd
theorem zBa (s:St) (x:Nat) (d:D):(s.put (some x) d).lp x=none:=by
 simp only[St.put,zJl]
 cases h:s.lp x with
 |none=>exact h
 |some q=>exact yP _ _ _
theorem yXt {e:Eff} {s s':St} (he:uP X F C m0 o s e) {x:Nat} (hd:o.dst=some x):(e.apply o.dst s).lp x=(e.apply o.dst s').lp x:=by
 rw[hd]
 cases e with
 |put d=>simp only[Eff.apply];rw[zBa,zBa]
 |putM d m=>show (s.put (some x) d).lp x=(s'.put (some x) d).lp x;rw[zBa,zBa]
 |putL k off=>simp[Eff.apply,St.putL,yP]
 |stay=>rw[show o.dst=none from he] at hd;cases hd
 |newBox cs=>simp[Eff.apply,St.newBox,yP]
 |wr k off cs=>rw[he.2.1] at hd;cases hd
 |wrM id off ds=>rw[he.2] at hd;cases hd
theorem zWg (s:St) (dst:Option Nat) (d:D):(s.put dst d).bx=s.bx:=by cases dst<;>rfl
theorem zTk (s:St) (dst:Option Nat) (d:D):(s.put dst d).m=s.m:=by cases dst<;>rfl
theorem yAw {ei ej:Eff} {st:St} (hi:uP X F C m0 oi st ei) (hj:uP X F C m0 oj st ej) (hi':uP X F C m0 oi (ej.apply oj.dst st) ei) (hj':uP X F C m0 oj (ei.apply oi.dst st) ej)
  (hdd:∀d,oi.dst=some d->oj.dst≠some d) (hk:vU (zK X.P C.pf F oi) (zK X.P C.pf F oj)=true) :
  ei.apply oi.dst (ej.apply oj.dst st)=ej.apply oj.dst (ei.apply oi.dst st):=by
 apply St.ext'
 ·intro t
  by_cases h1:oi.dst=some t
  ·rw[zDj ej oj.dst _ (hdd t h1)]
   exact yXo hi' h1
  ·rw[zDj ei oi.dst _ h1]
   by_cases h2:oj.dst=some t
   ·exact yXo hj h2
   ·rw[zDj ej oj.dst _ h2,zDj ej oj.dst _ h2,zDj ei oi.dst _ h1]
 ·intro t
  by_cases h1:oi.dst=some t
  ·rw[zBm ej hj' (hdd t h1)]
   exact yXt hi' h1
  ·rw[zBm ei hi' h1]
   by_cases h2:oj.dst=some t
   ·exact yXt hj h2
   ·rw[zBm ej hj h2,zBm ej hj' h2,zBm ei hi h1]
 ·intro k
  have bxe:∀(e:Eff) (o:Oper) (s:St),uP X F C m0 o s e->(e.apply o.dst s).bx k=(match e with|.newBox cs=>if o.dst=some k then some cs else s.bx k|.wr k' off ds=>if k=k' then(s.bx k).map (λcs=>setRow cs off ds) else s.bx k|_=>s.bx k):=λe o s he=>by
   cases e with
   |put d=>simp only[Eff.apply];rw[zWg]
   |putM d m=>show (s.put o.dst d).bx k=_;rw[zWg]
   |putL a b=>simp only[Eff.apply];cases o.dst<;>rfl
   |stay=>rfl
   |wrM id off ds=>rfl
   |newBox cs=>
    obtain⟨_,x,hd,hb⟩:=he
    simp only[Eff.apply,hd,St.newBox,upd,Option.some.injEq,eq_comm]
   |wr k' off ds=>
    obtain⟨_,_,cs,hb,_⟩:=he
    simp only[Eff.apply,hb]
    by_cases hk':k=k'
    ·subst hk';rw[yP,if_pos rfl,hb];rfl
    ·rw[yA _ _ hk',if_neg hk']
  rw[bxe ei oi _ hi',bxe ej oj _ hj,bxe ej oj _ hj',bxe ei oi _ hi]
  cases ei<;>cases ej<;>try rfl
  ·rename_i c1 c2
   by_cases h1:oi.dst=some k
   ·simp[h1,hdd k h1]
   ·simp[h1]
  ·rename_i c1 k2 o2 d2
   by_cases h1:oi.dst=some k
   ·by_cases h2:k=k2
    ·subst h2
     obtain⟨_,x,hd,hb⟩:=hi
     rw[h1] at hd;cases hd
     obtain⟨_,_,cs,hb2,_⟩:=hj
     rw[hb] at hb2;cases hb2
    ·simp[h1,h2]
   ·simp[h1]
  ·rename_i k1 o1 d1 c2
   by_cases h1:oj.dst=some k
   ·by_cases h2:k=k1
    ·subst h2
     obtain⟨_,x,hd,hb⟩:=hj
     rw[h1] at hd;cases hd
     obtain⟨_,_,cs,hb2,_⟩:=hi
     rw[hb] at hb2;cases hb2
    ·simp[h1,h2]
   ·simp[h1]
  ·rename_i k1 o1 d1 k2 o2 d2
   by_cases h1:k=k1<;>by_cases h2:k=k2
   ·subst h1;subst h2
    have hk:vU (.wr k o1 d1.length) (.wr k o2 d2.length)=true:=by
     rcases hi.1 with⟨h3,hc⟩|⟨h3,hc⟩<;>rcases hj.1 with⟨h4,hc'⟩|⟨h4,hc'⟩
     ·rw[h3,h4] at hk;exact hk
     ·rw[hc] at hc';cases hc'
     ·rw[hc] at hc';cases hc'
     ·rw[h3,h4] at hk;cases hk
    simp only[if_true,Option.map_map]
    cases hbk:st.bx k with
    |none=>rfl
    |some cs=>
     simp only[Option.map_some,Function.comp_apply,Option.some.injEq]
     obtain⟨_,_,cs1,hb1,hl1⟩:=hi
     obtain⟨_,_,cs2,hb2,hl2⟩:=hj
     rw[hbk] at hb1 hb2;cases hb1;cases hb2
     have hkk:k.beq k=true:=Nat.beq_refl k
     simp only[vU,hkk,Bool.not_true,Bool.false_or,Bool.or_eq_true,Nat.ble_eq] at hk
     rcases hk with hk|hk
     ·exact(zLq cs o1 o2 d1 d2 hk).symm
     ·exact zLq cs o2 o1 d2 d1 hk
   ·simp only[if_pos h1,if_neg h2]
   ·simp only[if_neg h1,if_pos h2]
   ·simp only[if_neg h1,if_neg h2]
 ·have me:∀(e:Eff) (o:Oper) (s:St),uP X F C m0 o s e->(e.apply o.dst s).m=(match e with|.putM _ m=>m|.wrM id off ds=>{ s.m with boxes:=wrB s.m.boxes id off ds }|_=>s.m):=λe o s he=>by
   cases e with
   |put d=>simp only[Eff.apply];rw[zTk]
   |putM d m=>rfl
   |putL a b=>simp only[Eff.apply];cases o.dst<;>rfl
   |stay=>rfl
   |newBox cs=>obtain⟨_,x,hd,hb⟩:=he;simp only[Eff.apply,hd];rfl
   |wr k' off cs=>rfl
   |wrM id off ds=>rfl
  rw[me ei oi _ hi',me ej oj _ hj,me ej oj _ hj',me ei oi _ hi]
  cases ei<;>cases ej<;>try rfl
  ·have hi:zK X.P C.pf F oi=.mem\/zK X.P C.pf F oi=.st:=hi
   have hj:zK X.P C.pf F oj=.mem\/zK X.P C.pf F oj=.st:=hj
   rcases hi with hi|hi<;>rcases hj with hj|hj<;>rw[hi,hj] at hk<;>cases hk
  ·have hi:zK X.P C.pf F oi=.mem\/zK X.P C.pf F oi=.st:=hi
   rcases hi with hi|hi<;>rcases hj.1 with⟨hj,_⟩|⟨hj,_⟩<;>rw[hi,hj] at hk<;>cases hk
  ·have hj:zK X.P C.pf F oj=.mem\/zK X.P C.pf F oj=.st:=hj
   rcases hj with hj|hj<;>rcases hi.1 with⟨hi,_⟩|⟨hi,_⟩<;>rw[hi,hj] at hk<;>cases hk
  ·rename_i i1 o1 d1 i2 o2 d2
   have hne:i1≠i2:=λe=>by
    subst e
    rcases hi.1 with⟨h1,g1⟩|⟨h1,g1⟩<;>rcases hj.1 with⟨h2,g2⟩|⟨h2,g2⟩
    ·rw[h1,h2] at hk;cases hk
    ·rw[g1] at g2;cases g2
    ·rw[g1] at g2;cases g2
    ·rw[h1,h2] at hk;cases hk
   simp only[me ei oi _ hi,me ej oj _ hj]
   exact congrArg (λb=>(⟨b,st.m.toks⟩:Mem)) (yIh o2 o1 d2 d1 (Ne.symm hne))
theorem zDf (hw:WfR st) {e:Eff} (he:uP X F C m0 o st e):WfR (e.apply o.dst st):=by
 intro x k off h
 by_cases hx:o.dst=some x
 ·rw[hx] at h ⊢
  cases e with
  |put d=>simp only[Eff.apply] at h;rw[zBa] at h;cases h
  |putM d m=>have h:(st.put (some x) d).lp x=_:=h;rw[zBa] at h;cases h
  |putL k' off'=>simp only[Eff.apply,St.putL] at h ⊢;rw[yP] at h;cases h;exact he.1
  |stay=>rw[show o.dst=none from he] at hx;cases hx
  |newBox cs=>simp only[Eff.apply,St.newBox] at h ⊢;rw[yP] at h;cases h;rw[yP];simp
  |wr k off cs=>rw[he.2.1] at hx;cases hx
  |wrM id off ds=>rw[he.2] at hx;cases hx
 ·rw[zBm e he hx] at h
  have:=hw x k off h
  cases e with
  |put d=>simp only[Eff.apply];rw[zWg];exact this
  |putM d m=>show (st.put o.dst d).bx k≠none;rw[zWg];exact this
  |putL a b=>simp only[Eff.apply];cases o.dst<;>exact this
  |stay=>exact this
  |newBox cs=>
   obtain⟨_,y,hd,hb⟩:=he
   simp only[Eff.apply,hd,St.newBox]
   by_cases e:k=y
   ·subst e;rw[yP];simp
   ·rw[yA _ _ e];exact this
  |wrM id off ds=>exact this
  |wr k' off cs=>
   obtain⟨_,_,c0,hb,_⟩:=he
   simp only[Eff.apply,hb]
   by_cases e:k=k'
   ·subst e;rw[yP];simp
   ·rw[yA _ _ e];exact this
end
theorem yAs {C:wC} {m0:Mem} (b:Bool) (g:Nat) (ds:List D) (dst:Option Nat) {K K':St->Prop} {st:St} (h:∀r m,(b=true\/Sub m0 m)->K ((st.put dst r).setM m)->K' ((st.put dst r).setM m)) (hc:zJi C m0 b g ds dst K st):zJi C m0 b g ds dst K' st:=by
 obtain⟨T,h1,h2,h3⟩:=hc
 exact⟨T,h1,h2,λr m hr=>⟨(h3 r m hr).1,h r m (h3 r m hr).1 (h3 r m hr).2⟩⟩
def yMq (X:Ctx) (F:Fi) (C:wC) (m0:Mem) (ops:Array Oper) (K:St->Prop):Nat->Array Bool->St->Prop
 |0,listed,st=>Region.ready .any ops listed=[]/\K st
 |fuel+1,listed,st=>(Region.ready .any ops listed=[]->K st)/\
  ∀i∈Region.ready .any ops listed,∀o,ops[i]?=some o->doN C m0 o.dst (yMq X F C m0 ops K fuel (listed.setIfInBounds i true)) st (zCd X F C m0 ops.toList o st)
section
variable {X:Ctx} {F:Fi} {C:wC} {m0:Mem} {ops:Array Oper} {K K':St->Prop} {st:St} {o oi oj:Oper}
theorem Sub.trans {a b c:Mem} (h:Sub a b) (k:Sub b c):Sub a c:=λid cs h'=>k id cs (h id cs h')
theorem zPk (hw:WfR st) {t:Option yHh} (ht:t=zCd X F C m0 ops.toList o st) (hk:∀s,WfR s->K s->K' s) (h:doN C m0 o.dst K st t):doN C m0 o.dst K' st t:=by
 cases t with
 |none=>exact h
 | some t=>
  cases t with
  |eff e=>exact hk _ (zDf (m0:=m0) hw (zCr hw ht.symm)) h
  |call b g ds=>
   have h4:zK X.P C.pf F o=.mem\/zK X.P C.pf F o=.st:=by rw[zGb ht.symm];exact zLh b
   exact yAs b g ds o.dst (λr m _ hK=>hk _ (zDf (m0:=m0) (o:=o) (e:=.putM r m) hw h4) hK) h
theorem yKw {t:Option yHh} (h:doN C m0 o.dst K st t):∃s,K s:=by
 cases t with
 |none=>exact h.elim
 | some t=>
  cases t with
  |eff e=>exact⟨_,h⟩
  |call b g ds=>
   obtain⟨T,⟨r,m,hr⟩,_,h3⟩:=h
   exact⟨_,(h3 r m hr).2⟩
theorem yAf {a b:Kd} (h:vU a b=true):vU b a=true:=by
 have bs:∀x y:Nat,x.beq y=y.beq x:=λx y=>by
  cases h1:x.beq y with
  |true=>rw[Nat.eq_of_beq_eq_true h1];exact(Nat.beq_refl y).symm
  |false=>
   cases h2:y.beq x with
   |true=>rw[Nat.eq_of_beq_eq_true h2,Nat.beq_refl x] at h1;cases h1
   |false=>rfl
 cases a<;>cases b<;>first|rfl|(cases h;done)|skip
 all_goals simp only[vU] at h ⊢
 ·rw[bs];exact h
 ·rw[bs];exact h
 ·rw[bs,Bool.or_comm (Nat.ble _ _)];exact h
theorem yAx {ops:Array Oper} (h:oi.apart ops oj=true):(∀d,oj.dst=some d->d∉oi.looksAt ops)/\(∀d,oj.dst=some d->oi.dst≠some d):=by
 obtain⟨h1,h2,h3⟩:=Oper.apart_spec h
 exact⟨h3,λd hd he=>h2 d he hd⟩
theorem swap (hw:WfR st) (hap:oi.apart ops oj=true) (hk:vU (zK X.P C.pf F oi) (zK X.P C.pf F oj)=true)
  (h:doN C m0 oi.dst (λs=>doN C m0 oj.dst K s (zCd X F C m0 ops.toList oj s)) st (zCd X F C m0 ops.toList oi st)) :
  doN C m0 oj.dst (λs=>doN C m0 oi.dst K s (zCd X F C m0 ops.toList oi s)) st (zCd X F C m0 ops.toList oj st):=by
 obtain⟨a1,a2,a3⟩:=Oper.apart_spec hap
 obtain⟨b1,b2⟩:=yAx hap
 have hk':=yAf hk
 have lat:∀ei,uP X F C m0 oi st ei->zCd X F C m0 ops.toList oj (ei.apply oi.dst st)=zCd X F C m0 ops.toList oj st:=λei he=>(zNy (zYq he hw a1 a2 hk)).symm
 have ear:∀ej,uP X F C m0 oj st ej->zCd X F C m0 ops.toList oi (ej.apply oj.dst st)=zCd X F C m0 ops.toList oi st:=λej he=>(zNy (zYq he hw b1 b2 hk')).symm
 have comm:∀ei ej,uP X F C m0 oi st ei->uP X F C m0 oj st ej->uP X F C m0 oi (ej.apply oj.dst st) ei->uP X F C m0 oj (ei.apply oi.dst st) ej->ei.apply oi.dst (ej.apply oj.dst st)=ej.apply oj.dst (ei.apply oi.dst st):=λei ej h1 h2 h3 h4=>
  yAw h1 h2 h3 h4 (λd hd=>a2 d hd) hk
 have mOf:∀(e:Eff) (o:Oper),uP X F C m0 o st e->zK X.P C.pf F o≠.mem/\zK X.P C.pf F o≠.st/\zK X.P C.pf F o≠.sto/\zK X.P C.pf F o≠.stf->(e.apply o.dst st).m=st.m:=λe o he h4=>by
  cases e with
  |put d=>simp only[Eff.apply];rw[zTk]
  |putM d m=>exact absurd he λh=>h.elim h4.1 h4.2.1
  |putL a b=>simp only[Eff.apply];cases o.dst<;>rfl
  |stay=>rfl
  |newBox cs=>obtain⟨_,x,hd,hb⟩:=he;simp only[Eff.apply,hd];rfl
  |wr k' off cs=>rfl
  |wrM id off ds=>exact absurd he.1 λh=>h.elim (λh=>h4.2.2.1 h.1) (λh=>h4.2.2.2 h.1)
 cases hi:zCd X F C m0 ops.toList oi st with
 |none=>rw[hi] at h;exact h.elim
 | some ti=>
  rw[hi] at h
  cases ti with
  | eff ei=>
   have oki:=zCr hw hi
   have h:doN C m0 oj.dst K (ei.apply oi.dst st) (zCd X F C m0 ops.toList oj (ei.apply oi.dst st)):=h
   have e1:=lat ei oki
   cases hj:zCd X F C m0 ops.toList oj st with
   |none=>rw[e1,hj] at h;exact h.elim
   | some tj=>
    have hj1:zCd X F C m0 ops.toList oj (ei.apply oi.dst st)=some tj:=by rw[e1,hj]
    rw[hj1] at h
    cases tj with
    |eff ej=>
     have okj:=zCr hw hj
     have okj':=zCr (zDf (m0:=m0) hw oki) hj1
     have e2:=ear ej okj
     have hi1:zCd X F C m0 ops.toList oi (ej.apply oj.dst st)=some (.eff ei):=by rw[e2,hi]
     have oki':=zCr (zDf (m0:=m0) hw okj) hi1
     show doN C m0 oi.dst K (ej.apply oj.dst st) (zCd X F C m0 ops.toList oi (ej.apply oj.dst st))
     rw[hi1]
     show K (ei.apply oi.dst (ej.apply oj.dst st))
     rw[comm ei ej oki okj oki' okj']
     exact h
    |call b g ds=>
     have k4:=zGb hj
     have k5:zK X.P C.pf F oj=.mem\/zK X.P C.pf F oj=.st:=by rw[k4];exact zLh b
     have ki:zK X.P C.pf F oi≠.mem/\zK X.P C.pf F oi≠.st/\zK X.P C.pf F oi≠.sto/\zK X.P C.pf F oi≠.stf:=⟨λe=>(by rw[e,k4] at hk;cases b<;>cases hk),λe=>(by rw[e,k4] at hk;cases b<;>cases hk),λe=>(by rw[e,k4] at hk;cases b<;>cases hk),λe=>(by rw[e,k4] at hk;cases b<;>cases hk)⟩
     obtain⟨T,h1,h2,h3⟩:=h
     rw[mOf ei oi oki ki] at h2
     refine⟨T,h1,h2,λr m hr=>?_⟩
     obtain⟨s1,s2⟩:=h3 r m hr
     refine⟨s1,?_⟩
     have okj:uP X F C m0 oj st (.putM r m):=k5
     have okj':uP X F C m0 oj (ei.apply oi.dst st) (.putM r m):=k5
     have e2:=ear (.putM r m) okj
     have hi1:zCd X F C m0 ops.toList oi ((Eff.putM r m).apply oj.dst st)=some (.eff ei):=by rw[e2,hi]
     have oki':=zCr (zDf (m0:=m0) hw okj) hi1
     show doN C m0 oi.dst K ((Eff.putM r m).apply oj.dst st) (zCd X F C m0 ops.toList oi ((Eff.putM r m).apply oj.dst st))
     rw[hi1]
     show K (ei.apply oi.dst ((Eff.putM r m).apply oj.dst st))
     rw[comm ei (.putM r m) oki okj oki' okj']
     exact s2
  | call b g ds=>
   have k4:=zGb hi
   have k5:zK X.P C.pf F oi=.mem\/zK X.P C.pf F oi=.st:=by rw[k4];exact zLh b
   have kj:zK X.P C.pf F oj≠.mem/\zK X.P C.pf F oj≠.st/\zK X.P C.pf F oj≠.sto/\zK X.P C.pf F oj≠.stf:=⟨λe=>(by rw[k4,e] at hk;cases b<;>cases hk),λe=>(by rw[k4,e] at hk;cases b<;>cases hk),λe=>(by rw[k4,e] at hk;cases b<;>cases hk),λe=>(by rw[k4,e] at hk;cases b<;>cases hk)⟩
   obtain⟨T,⟨r0,m1,hr0⟩,h2,h3⟩:=h
   have oki:∀r m,uP X F C m0 oi st (.putM r m):=λr m=>k5
   cases hj:zCd X F C m0 ops.toList oj st with
   |none=>
    have:=(h3 r0 m1 hr0).2
    have e1:=lat (.putM r0 m1) (oki r0 m1)
    have:doN C m0 oj.dst K ((Eff.putM r0 m1).apply oi.dst st) (zCd X F C m0 ops.toList oj ((Eff.putM r0 m1).apply oi.dst st)):=this
    rw[e1,hj] at this;exact this.elim
   | some tj=>
    cases tj with
    |call b' g' ds'=>exact absurd (zGb hj) (λe=>by rw[e] at kj;cases b'<;>first|exact kj.1 rfl|exact kj.2.1 rfl)
    |eff ej=>
     have okj:=zCr hw hj
     have e2:=ear ej okj
     have hi1:zCd X F C m0 ops.toList oi (ej.apply oj.dst st)=some (.call b g ds):=by rw[e2,hi]
     show doN C m0 oi.dst K (ej.apply oj.dst st) (zCd X F C m0 ops.toList oi (ej.apply oj.dst st))
     rw[hi1]
     refine⟨T,⟨r0,m1,hr0⟩,by rw[mOf ej oj okj kj];exact h2,λr m hr=>?_⟩
     obtain⟨s1,s2⟩:=h3 r m hr
     refine⟨s1,?_⟩
     have e1:=lat (.putM r m) (oki r m)
     have hj1:zCd X F C m0 ops.toList oj ((Eff.putM r m).apply oi.dst st)=some (.eff ej):=by rw[e1,hj]
     have s2:doN C m0 oj.dst K ((Eff.putM r m).apply oi.dst st) (zCd X F C m0 ops.toList oj ((Eff.putM r m).apply oi.dst st)):=s2
     rw[hj1] at s2
     have okj':=zCr (zDf (m0:=m0) hw (oki r m)) hj1
     have oki':uP X F C m0 oi (ej.apply oj.dst st) (.putM r m):=k5
     have:=comm (.putM r m) ej (oki r m) okj oki' okj'
     show K ((Eff.putM r m).apply oi.dst (ej.apply oj.dst st))
     rw[this];exact s2
theorem yGo {i:Nat} (hi:ops[i]?=some oi) (D:List Nat) (hiD:i∈D) (hD:∀d∈D,d≠i->∀od,ops[d]?=some od->∃e∈od.after,Region.binds .any e=true/\e.on∈D) :
  ∀(fuel:Nat) (listed:Array Bool) (st:St),WfR st->(∀d∈D,listed.getD d true=false)->
  (∀j oj,ops[j]?=some oj->listed.getD j true=false->j∉D->oi.apart ops oj=true/\vU (zK X.P C.pf F oi) (zK X.P C.pf F oj)=true)->
  i∈Region.ready .any ops listed->doN C m0 oi.dst (yMq X F C m0 ops K fuel (listed.setIfInBounds i true)) st (zCd X F C m0 ops.toList oi st)->yMq X F C m0 ops K (fuel+1) listed st:=by
 intro fuel
 induction fuel with
 | zero=>
  intro listed st hw _ _ hr H
  refine⟨λh=>(by rw[h] at hr;cases hr),λj hj o ho=>?_⟩
  by_cases hji:j=i
  ·subst hji;rw[hi] at ho;cases ho;exact H
  ·have:=ready_mono hj hji
   obtain⟨s,hs⟩:=yKw H
   rw[hs.1] at this
   cases this
 | succ fuel ih=>
  intro listed st hw hun hfree hr H
  refine⟨λh=>(by rw[h] at hr;cases hr),λj hj oj hoj=>?_⟩
  by_cases hji:j=i
  ·subst hji;rw[hi] at hoj;cases hoj;exact H
  ·obtain⟨hjun,oj',hoj',hall⟩:=mem_ready.1 hj
   rw[hoj] at hoj';cases hoj'
   have hjD:j∉D:=λhjD=>by
    obtain⟨e,he,hb,heD⟩:=hD j hjD hji oj hoj
    have h1:=hall e he hb
    have h0:=hun _ heD
    rcases Nat.lt_or_ge e.on listed.size with h'|h'
    ·simp[h'] at h0 h1;rw[h0] at h1;cases h1
    ·simp[Array.getElem?_eq_none h'] at h1
   obtain⟨hap,hk⟩:=hfree j oj hoj hjun hjD
   have H1:doN C m0 oi.dst (λs=>doN C m0 oj.dst (yMq X F C m0 ops K fuel ((listed.setIfInBounds i true).setIfInBounds j true)) s (zCd X F C m0 ops.toList oj s)) st (zCd X F C m0 ops.toList oi st):=
    zPk hw rfl (λs _ hs=>hs.2 j (ready_mono hj hji) oj hoj) H
   have H2:=swap hw hap hk H1
   have hun':∀d∈D,(listed.setIfInBounds j true).getD d true=false:=λd hd=>by
    rw[getD_set_ne true (λe=>hjD (by rw[e];exact hd))];exact hun d hd
   have hfree':∀k ok,ops[k]?=some ok->(listed.setIfInBounds j true).getD k true=false->k∉D->oi.apart ops ok=true/\vU (zK X.P C.pf F oi) (zK X.P C.pf F ok)=true:=λk ok hk hkun hno=>by
    refine hfree k ok hk ?_ hno
    by_cases hjk:j=k
    ·subst hjk;exact hjun
    ·rw[getD_set_ne true hjk] at hkun;exact hkun
   refine zPk hw rfl (λs hws hs=>ih (listed.setIfInBounds j true) s hws hun' hfree' (ready_mono hr (Ne.symm hji)) ?_) H2
   rw[Array.setIfInBounds_comm _ _ hji]
   exact hs
theorem zFw :∀{l:List Nat} {x:Nat},wX l x=true->x∈l
 |[],_,h=>by cases h
 |y::r,x,h=>by
  simp only[wX] at h
  split at h
  ·rename_i e;rw[e];exact List.mem_cons_self ..
  ·exact List.mem_cons_of_mem _ (zFw h)
theorem zMb {D:List Nat} {p:Oper} (h:zQn D p=true):∃e∈p.after,Region.binds .any e=true/\e.on∈D:=by
 unfold zQn at h
 rw[Array.any_eq_true] at h
 obtain⟨x,hx,he⟩:=h
 simp only[Bool.and_eq_true] at he
 exact⟨_,Array.getElem_mem hx,he.1,zFw he.2⟩
theorem zDc {i:Nat}:∀{l:List Oper} {k:Nat} {D:List Nat},(∀j,l[j]?=ops[k+j]?)->zKm X.P C.pf F ops oi l k D=true->
  (∀d∈D,d<k/\i<=d)->i<=k->(∀d∈D,d≠i->∀od,ops[d]?=some od->∃e∈od.after,Region.binds .any e=true/\e.on∈D)->(∀j oj,ops[j]?=some oj->i<j->j<k->j∉D->oi.apart ops oj=true/\vU (zK X.P C.pf F oi) (zK X.P C.pf F oj)=true)->
  ∃D':List Nat,(∀d∈D,d∈D')/\(∀d∈D',i<=d/\d<k+l.length)/\(∀d∈D',d≠i->∀od,ops[d]?=some od->∃e∈od.after,Region.binds .any e=true/\e.on∈D')/\
   ∀j oj,ops[j]?=some oj->i<j->j∉D'->oi.apart ops oj=true/\vU (zK X.P C.pf F oi) (zK X.P C.pf F oj)=true
 | [],k,D,hl,_,hD,_,he,hf=>⟨D,λ_ h=>h,λd hd=>⟨(hD d hd).2,by simpa using(hD d hd).1⟩,he,λj oj hj hij hjD=>by
   refine hf j oj hj hij ?_ hjD
   rcases Nat.lt_or_ge j k with h|h
   ·exact h
   ·have:=hl (j-k)
    rw[show k+(j-k)=j by omega,hj] at this
    simp at this⟩
 | p ::r,k,D,hl,h,hD,hik,he,hf=>by
  have hp:ops[k]?=some p:=by simpa using(hl 0).symm
  have hl':∀j,r[j]?=ops[k+1+j]?:=λj=>by have:=hl (j+1);simpa [Nat.add_assoc,Nat.add_comm 1 j] using this
  simp only[zKm] at h
  cases hb:zQn D p with
  |true=>
   rw[hb] at h
   obtain⟨e,h1,h2,h3⟩:=zMb hb
   obtain⟨D',g1,g2,g3,g4⟩:=zDc (k:=k+1) (D:=k::D) hl' h (λd hd=>by
     rcases List.mem_cons.1 hd with rfl|hd
     ·exact⟨Nat.lt_succ_self _,hik⟩
     ·exact⟨Nat.lt_succ_of_lt (hD d hd).1,(hD d hd).2⟩) (by omega) (λd hd hne od hod=>by
     rcases List.mem_cons.1 hd with rfl|hd
     ·rw[hp] at hod;cases hod
      exact⟨e,h1,h2,List.mem_cons_of_mem _ h3⟩
     ·obtain⟨e',a1,a2,a3⟩:=he d hd hne od hod
      exact⟨e',a1,a2,List.mem_cons_of_mem _ a3⟩) (λj oj hj hij hjk hjD=>by
     have hne:j≠k:=λe=>hjD (by rw[e];exact List.mem_cons_self ..)
     exact hf j oj hj hij (by omega) (λh=>hjD (List.mem_cons_of_mem _ h)))
   exact⟨D',λd hd=>g1 d (List.mem_cons_of_mem _ hd),λd hd=>⟨(g2 d hd).1,by have:=(g2 d hd).2;simp only[List.length_cons];omega⟩,g3,g4⟩
  |false=>
   rw[hb] at h
   simp only[Bool.and_eq_true] at h
   obtain⟨D',g1,g2,g3,g4⟩:=zDc (k:=k+1) (D:=D) hl' h.2.2 (λd hd=>⟨Nat.lt_succ_of_lt (hD d hd).1,(hD d hd).2⟩) (by omega) he (λj oj hj hij hjk hjD=>by
     by_cases e:j=k
     ·subst e;rw[hp] at hj;cases hj;exact⟨h.1,h.2.1⟩
     ·exact hf j oj hj hij (by omega) hjD)
   exact⟨D',g1,λd hd=>⟨(g2 d hd).1,by have:=(g2 d hd).2;simp only[List.length_cons];omega⟩,g3,g4⟩
theorem yEf :∀(l:List Oper) (k:Nat) (listed:Array Bool) (st:St),WfR st->(∀j,l[j]?=ops[k+j]?)->yIb X.P C.pf F ops l k=true->(∀j,j<ops.size->listed.getD j true=decide (j<k))->
  zBw X F C m0 ops.toList l K st->yMq X F C m0 ops K l.length listed st
 |[],k,listed,_,_,hl,_,hlow,h=>by
  refine⟨?_,h⟩
  refine List.eq_nil_iff_forall_not_mem.2 λj hj=>?_
  obtain⟨h0,o,ho,_⟩:=mem_ready.1 hj
  have hlt:=(Array.getElem?_eq_some_iff.1 ho).1
  rw[hlow j hlt] at h0
  have hjk:k<=j:=by simpa using h0
  have:=hl (j-k)
  rw[show k+(j-k)=j by omega,ho] at this
  simp at this
 | o ::l,k,listed,st,hw,hl,hm,hlow,h=>by
  have h0:ops[k]?=some o:=by simpa using(hl 0).symm
  have hkl:=(Array.getElem?_eq_some_iff.1 h0).1
  have hl':∀j,l[j]?=ops[k+1+j]?:=λj=>by have:=hl (j+1);simpa [Nat.add_assoc,Nat.add_comm 1 j] using this
  simp only[yIb,Bool.and_eq_true] at hm
  obtain⟨hr,hc,hm'⟩:=hm
  have hdo:=yZi ops.toList o h
  obtain⟨D',g1,g2,g3,g4⟩:=zDc (i:=k) (k:=k+1) (D:=[k]) hl' hc (λd hd=>by simp at hd;omega) (by omega) (λd hd hne=>by simp at hd;exact absurd hd hne) (λj oj hj h1 h2=>by omega)
  have hlen:k+1+l.length=ops.size:=by
   rcases Nat.lt_trichotomy (k+1+l.length) ops.size with h|h|h
   ·have:=hl' l.length
    rw[Array.getElem?_eq_getElem h] at this
    simp at this
   ·exact h
   ·cases hll:l.length with
    |zero=>omega
    |succ q=>
     have:=hl' q
     rw[Array.getElem?_eq_none (by omega),List.getElem?_eq_getElem (by omega)] at this
     cases this
  refine yGo h0 D' (g1 k (List.mem_cons_self ..)) g3 l.length listed st hw (λd hd=>?_) (λj oj hj hun hjD=>?_) ?_ (zPk hw rfl (λs hws hs=>?_) hdo)
  ·have:=g2 d hd
   rw[hlow d (by omega)];simp;omega
  ·have hlt:=(Array.getElem?_eq_some_iff.1 hj).1
   rw[hlow j hlt] at hun
   have hkj:k<=j:=by simpa using hun
   have hne:j≠k:=λe=>hjD (by rw[e];exact g1 k (List.mem_cons_self ..))
   exact g4 j oj hj (by omega) hjD
  ·refine mem_ready.2 ⟨by rw[hlow k hkl];simp,o,h0,λe he hb=>?_⟩
   rw[Array.all_eq_true] at hr
   obtain⟨q,hq,rfl⟩:=Array.mem_iff_getElem.1 he
   have:=hr q hq
   rw[hb] at this
   have hlt:(o.after[q]).on<k:=by
    have:Nat.blt (o.after[q]).on k=true:=by simpa using this
    simpa [Nat.blt_eq] using this
   have h1:=hlow (o.after[q]).on (by omega)
   rw[decide_eq_true hlt] at h1
   have hs:(o.after[q]).on<listed.size:=by
    rcases Nat.lt_or_ge (o.after[q]).on listed.size with h|h
    ·exact h
    ·exfalso
     have h2:=hlow k hkl
     simp[Array.getElem?_eq_none (show listed.size<=k by omega)] at h2
   simp[hs] at h1 ⊢
   exact h1
  ·refine yEf l (k+1) _ s hws hl' hm' (λj hj=>?_) hs
   by_cases e:k=j
   ·subst e
    rcases Nat.lt_or_ge k listed.size with h|h
    ·simp[h]
    ·simp
   ·rw[getD_set_ne true e,hlow j hj]
    congr 1
    apply propext
    omega
end
section
variable {rd:Option Nat}
variable {X:Ctx} {F:Fi} {C:wC} {B N n:Nat} {w0 w w':World} {S0 S S':Sh} {st:St} {lb:Nat->Nat} {a:Act} {m0:Mem} {K:St->Prop} {ops:Array Oper}
theorem zQa {k:Nat} {m m':Mem} {s d:D} {xs:List D} (h:zZ k m s xs=some (d,m')):m'.boxes=m.boxes:=by
 unfold zZ at h
 split at h
 ·cases h;rfl
 ·split at h
  ·cases h;rfl
  ·revert h
   cases decide (k=_)<;>intro h<;>cases h
   rfl
  ·split at h
   ·rename_i n hn
    revert h
    cases (decide (k=_)&&decide (n=_))<;>intro h<;>cases h
    rfl
   ·cases h
  ·cases h
theorem zSo {m m':Mem} (h:m'.boxes=m.boxes):Sub m m':=λid cs hc=>by rw[<-zDw (m:=m) (m':=m') (by rw[h])];exact hc
theorem yEl {F:Fi} {m0:Mem} {p:Operand} {id:Nat} (h:yBp F m0 p id=true) (hf:zTd F p=true) {m:Mem} {c:List D} (hm:Sub m0 m):Sub m0 { m with boxes:=m.boxes.set id c }:=λi cs hi=>by
 unfold yBp at h
 rw[hf,cond_true] at h
 have hne:id≠i:=λe=>by subst e;unfold inM at h;rw[(yC hi).1] at h;cases h
 rw[zDw (m:={ m with boxes:=m.boxes.set id c }) (m':=m) (id:=i) (List.getElem?_set_ne hne)];exact hm i cs hi
theorem zTq (m:Mem) (x:List D):Sub m { m with boxes:=m.boxes++[x] }:=λ_ _ hc=>wQ (wE (yC hc).1) (yC hc).2
theorem yFe {m m':Mem} {op:Op} {d:D} {bx:Bool} (h:wO X bx m st op=some (d,m')):Sub m m'\/(bx=true/\∃args tys,op=.call ⟨.builtin .append,args,tys⟩)\/∃args tys,op=.call ⟨.builtin .copy,args,tys⟩\/op=.call ⟨.builtin .clear,args,tys⟩:=by
 cases op<;>first|(cases h;done)|skip
 case convert s t x=>
  simp only[wO] at h
  split at h
  ·rename_i s' _ _
   revert h
   cases decide (s'.length<=16777216)<;>intro h<;>cases h
   exact .inl (zTq _ _)
  ·cases h
 case makeSlice t l c=>
  simp only[wO] at h
  split at h
  ·rename_i e n n' _ _ _
   split at h
   ·rename_i k z _ _ _
    revert h
    cases (z.okC&&decide (z.cells.length=k)&&decide (0<=n)&&decide (n=n')&&decide (n<=16777216))<;>intro h<;>cases h
    exact .inl (zTq _ _)
   ·cases h
  ·cases h
 case call c=>
  obtain⟨callee,args,tys⟩:=c
  cases callee<;>first|(cases h;done)|skip
  rename_i b
  cases b<;>first|(cases h;done)|exact .inr (.inr ⟨_,_,.inl rfl⟩)|exact .inr (.inr ⟨_,_,.inr rfl⟩)|skip
  simp only[wO] at h
  split at h
  ·split at h
   ·rename_i e k _ _
    split at h
    ·rename_i xs es _ _ _ _
     revert h
     cases decide (es.length+xs.length<=16777216)<;>intro h
     ·cases h
     ·cases bx with
      |true=>exact .inr (.inl ⟨rfl,_,_,rfl⟩)
      |false=>exact .inl (zSo (zQa h))
    ·cases h
   ·cases h
  ·cases h
def wC.down (C:wC) (X:Ctx):wC:={ C with run:=zMj X }
theorem zPj (C:wC):(C.down X).run=zMj X:=rfl
theorem yRx (hC:zAc X C):zAc X (C.down X):=⟨hC.pf,λ_ _ _ _ h=>h,hC.pv⟩
theorem zLr {pf:Nat->Bool} {dst:Option Nat} {f:Operand} {g:Nat} (h:zCm pf F dst f=some g):∃g0,f=.func g0/\decide (g0<100000)=true/\ix F dst g0=g/\pf g=true:=by
 unfold zCm at h
 split at h
 ·split at h
  ·rename_i hp
   simp only[Bool.and_eq_true] at hp
   cases h;exact⟨_,rfl,hp.1,rfl,hp.2⟩
  ·cases h
 ·cases h
theorem yEj (hC:zAc X C) {o:Oper} (h:doN C m0 o.dst K st (uJ X F C m0 o st)) :
  (∃d,zT X m0 st o.op=some d/\K (st.put o.dst d)/\∀t p,o.op=.load t p->qZ F st p=true)\/xE X F (C.down X) o (λs=>K s/\((Sub m0 st.m->Sub m0 s.m)\/(zK X.P C.pf F o).isSt=true)) st:=by
 have pure_:(∀t p,o.op=.load t p->qZ F st p=true)->doN C m0 o.dst K st (zAs X m0 o st)->∃d,zT X m0 st o.op=some d/\K (st.put o.dst d)/\∀t p,o.op=.load t p->qZ F st p=true:=λhl h=>by
  unfold zAs at h
  split at h
  ·rename_i d hd;exact⟨d,hd,h,hl⟩
  ·exact h.elim
 have make_:doN C m0 o.dst K st (zEj X F o st)->zBi X F o (λs=>K s/\((Sub m0 st.m->Sub m0 s.m)\/(zK X.P C.pf F o).isSt=true)) st:=λh=>by
  unfold zEj at h
  unfold zBi
  split at h
  ·rename_i d m hd
   rw[hd]
   refine⟨h,?_⟩
   rcases yFe hd with hs|⟨h1,args,tys,h2⟩|⟨args,tys,h2⟩
   ·exact .inl λh0=>h0.trans hs
   ·refine .inr ?_
    unfold zK
    rw[h2]
    simp only[h1]
    rfl
   ·refine .inr ?_
    unfold zK
    rcases h2 with h2|h2<;>rw[h2]<;>rfl
  ·exact h.elim
 have alloc_:∀cs,doN C m0 o.dst K st (zAv F o cs st)->zEe F o cs (λs=>K s/\((Sub m0 st.m->Sub m0 s.m)\/(zK X.P C.pf F o).isSt=true)) st:=λcs h=>by
  unfold zAv at h
  unfold zEe
  split at h
  ·rename_i x hx
   split at h
   ·rename_i hm
    simp only[hx,hm]
    rw[hx] at h
    exact⟨h,.inl λh0=>h0.trans (zTq _ _)⟩
   ·rename_i hm
    split at h
    ·rename_i hb
     simp only[hx,hm]
     simp only[doN,Eff.apply,hx] at h
     exact⟨h,.inl id⟩
    ·exact h.elim
  ·exact h.elim
 unfold uJ at h
 unfold xE
 split at h<;>rename_i hop<;>simp only[hop]
 ·right
  split at h
  ·rename_i z hz;rw[hz];exact alloc_ _ h
  ·exact h.elim
 ·right
  split at h
  ·rename_i k hk
   split at h
   ·rename_i hb;rw[hk];simp only;rw[hb];exact alloc_ _ h
   ·exact h.elim
  ·exact h.elim
 ·right
  rename_i t p v
  split at h
  ·rename_i hd
   rw[hd]
   unfold zHk at h
   unfold zJn
   split at h
   ·rename_i hlk
    have hr':=zFm hlk
    split at h
    ·rename_i key off hr
     cases p with
     | tmp x=>
      have hl:st.lp x=some (key,off):=hr
      split at h
      ·rename_i cs k hb hk
       split at h
       ·rename_i hc
        rw[Bool.and_eq_true] at hc
        replace hc:=hc.2
        simp only[hl,hb,hk,hc]
        rw[hd] at h
        simp only[doN,Eff.apply,hb] at h
        exact⟨h,.inl id⟩
       ·exact h.elim
      ·exact h.elim
     |const v=>cases hr
     |global g=>cases hr
     |func f=>cases hr
    ·rename_i hr
     rw[hr] at hr'
     split at h
     ·rename_i id off hp
      cases p with
      | tmp x=>
       have hl:st.lp x=none:=hr
       have hs:st.sl x=.ptr id off:=hp
       split at h
       ·rename_i cs k hb hk
        split at h
        ·rename_i hc
         rw[Bool.and_eq_true] at hc
         obtain⟨hfo,hc⟩:=hc
         simp only[hl,hs,hb,hk,hc]
         rw[hd] at h
         simp only[doN,Eff.apply,wrB,(yC hb).1] at h
         have hr':=hr'.elim (λh=>h.symm) (λ⟨k',o',h1,_⟩=>by cases h1)
         refine⟨h,?_⟩
         cases hfr:zTd F (.tmp x) with
         |false=>exact .inr (by unfold zK;rw[hop];simp only[hr',hfr];rfl)
         |true=>exact .inl (yEl hfo hfr)
        ·exact h.elim
       ·exact h.elim
      | const v=>
       exfalso
       have:zCo v≠some (.ptr id off):=λe=>by
        unfold zCo at e
        split at e
        ·rename_i cs
         cases hc:zJt zFe cs.toList<;>rw[hc] at e<;>cases e
        ·unfold zFe at e
         split at e<;>cases e
       simp only[ev] at hp
       cases hv:zCo v with
       |none=>rw[hv] at hp;cases hp
       |some d=>rw[hv] at hp;simp only[Option.getD_some] at hp;rw[hp] at hv;exact this hv
      |global g=>
       exfalso
       simp only[ev] at hp
       split at hp<;>cases hp
      |func f=>cases hp
     ·exact h.elim
   ·exact h.elim
  ·exact h.elim
 ·right
  split at h
  ·rename_i g hg
   obtain⟨g0,rfl,h0,rfl,hp⟩:=zLr hg
   split at h
   ·rename_i d hd
    have:=hC.pv _ _ d hp hd st.m
    rw[xAb F o.dst h0] at this
    simp only[ev,List.append_nil,h0]
    rw[zPj]
    refine zZv h0 (qJ.mono this ?_)
    rintro r m' ⟨rfl,rfl⟩
    have e:(st.put o.dst r).setM st.m=st.put o.dst r:=by
     cases o.dst<;>rfl
    rw[e]
    exact⟨h,.inl (by rw[zTk];exact id)⟩
   ·exact h.elim
  ·rename_i hpn
   split at h
   ·rename_i g cap hf
    rw[hf]
    simp only
    split at h
    ·rename_i hlt
     rw[hlt]
     obtain⟨T,_,h2,h3⟩:=h
     simp only[zPj]
     exact zMj.mono (hC.run _ _ _ _ h2) λr m hr=>⟨(h3 r m hr).2,(h3 r m hr).1.elim (λhb=>.inr (by unfold zK;rw[hop];simp only;rw[hpn];simp only;rw[hb];rfl)) λhs=>.inl λ_=>hs⟩
    ·exact h.elim
   ·rename_i id hf
    rw[hf]
    simp only
    obtain⟨T,_,h2,h3⟩:=h
    simp only[zPj]
    exact zMj.mono (hC.run _ _ _ _ h2) λr m hr=>⟨(h3 r m hr).2,(h3 r m hr).1.elim (λhb=>.inr (by unfold zK;rw[hop];simp only;rw[hpn];simp only;rw[hb];rfl)) λhs=>.inl λ_=>hs⟩
   ·exact h.elim
 ·exact .inr (make_ h)
 ·exact .inr (make_ h)
 ·exact .inr (make_ h)
 ·right
  unfold yOz at h
  unfold yBm
  split at h
  ·rename_i d hd
   rw[hd]
   exact⟨h,.inl (by rw[zTk];exact id)⟩
  ·exact h.elim
 ·exact .inl (hop▸pure_ (λt' p' e=>by rw[hop] at e;cases e) h)
 ·exact .inl (hop▸pure_ (λt' p' e=>by rw[hop] at e;cases e) h)
 ·exact .inl (hop▸pure_ (λt' p' e=>by rw[hop] at e;cases e) h)
 ·rename_i t p i
  split at h
  ·rename_i key off hr
   right
   split at h
   ·rename_i n x hn hx
    simp only[doN,Eff.apply,hx] at h
    simp only[hr,hn,hx]
    exact⟨h,.inl id⟩
   ·exact h.elim
  ·exact .inl (hop▸pure_ (λt' p' e=>by rw[hop] at e;cases e) h)
 ·rename_i p
  split at h
  ·rename_i key off hr
   right
   split at h
   ·rename_i x hx
    simp only[doN,Eff.apply,hx] at h
    simp only[hr,hx]
    exact⟨h,.inl id⟩
   ·rename_i hx
    simp only[doN,Eff.apply] at h
    simp only[hr,hx]
    exact⟨h,.inl id⟩
  ·exact .inl (hop▸pure_ (λt' p' e=>by rw[hop] at e;cases e) h)
 ·split at h
  ·rename_i hl
   exact .inl (hop▸pure_ (λt' p' e=>by rw[hop] at e;cases e;exact hl) h)
  ·exact h.elim
 ·exact .inr (make_ h)
 ·split at h
  ·rename_i hb;right;rw[hb];exact make_ h
  ·exact .inl (hop▸pure_ (λt' p' e=>by rw[hop] at e;cases e) h)
 all_goals first|exact .inl (hop▸pure_ (λt' p' e=>by rw[hop] at e;cases e) h)|exact h.elim
theorem yEy {o:Oper} {m1:Mem} (hk:(zK X.P C.pf F o).onMem=false) (hl:∀t p,o.op=.load t p->qZ F st p=true):zT X m0 st o.op=zT X m1 st o.op:=by
 obtain⟨dst,op,ty,pos,af,gd⟩:=o
 cases op<;>first|rfl|skip
 case makeFunc f a b=>cases f<;>rfl
 case convert s t x=>
  simp only[zT]
  cases hb:xB X.P s&&wA X.P t with
  |false=>rfl
  | true=>
   exfalso
   simp only[Bool.and_eq_true] at hb
   have h2:wA X.P s=false:=by
    have:=hb.1
    unfold xB zI at this
    unfold wA
    cases hu:X.P.underlying s with
    |none=>rfl
    |some d=>rw[hu] at this;cases d<;>first|rfl|cases this
   unfold zK at hk
   simp only[h2,hb.1,hb.2,Bool.false_and,Bool.and_self,Kd.onMem] at hk
   cases hk
 case slice t x lo hi mx=>cases lo<;>cases hi<;>cases mx<;>rfl
 case call c=>
  obtain⟨callee,args,tys⟩:=c
  cases callee<;>first|rfl|skip
  rename_i b
  cases b<;>rfl
 case load t p=>
  have h1:=zFm (hl t p rfl)
  have h2:wP st p≠none:=λe=>by
   rw[e] at h1
   have h1:=h1.elim (λh=>h.symm) (λ⟨k',o',h1,_⟩=>by cases h1)
   unfold zK at hk
   simp only[h1,Kd.onMem] at hk
   cases hk
  cases p with
  |tmp x=>
   simp only[zT,zEi]
   cases hx:st.lp x with
   |none=>exact absurd hx h2
   |some ko=>rfl
  |const v=>exact absurd rfl h2
  |global g=>exact absurd rfl h2
  |func f=>exact absurd rfl h2
theorem yPs (hC:zAc X C) (hB:B<=N) (hT0:Tidy w0 S0) (hN:N<=w0.heap.size) (E0:Ext N w0 S0 w S) (R:yI X B w S) (A:vK N w S st lb a) (hn:n<=a.tmps.size) {o:Oper} (hdst:∀x,o.dst=some x->x<n) (hs:Sub m0 st.m\/(zK X.P C.pf F o).onMem=false)
  {Q:Exit->Act->World->Prop} (h:doN C m0 o.dst K st (uJ X F C m0 o st)):o.wpIn (FR rd) 0 X.P a w (zCh X B N n w0 S0 λs=>((Sub m0 st.m->Sub m0 s.m)\/(zK X.P C.pf F o).isSt=true)/\K s) Q:=by
 rcases yEj hC h with⟨d,hd,hK,hl⟩|hst
 ·have hd':zT X S.m st o.op=some d\/Sub m0 S.m:=by
   rcases hs with hs|hk
   ·exact .inr (A.m▸hs)
   ·exact .inl (by rw[<-yEy (m0:=m0) hk hl];exact hd)
  rcases hd' with hd'|hm
  ·obtain⟨v,hr,hv⟩:=zTt R A (m0:=S.m) (λ_ _ h=>h) hd'
   exact zAd (λc e=>by rw[e] at hd;cases hd) hr (zCx hT0 E0 R A hn hdst hv ⟨.inl λh=>by rw[zTk];exact h,hK⟩)
  ·obtain⟨v,hr,hv⟩:=zTt R A (m0:=m0) hm hd
   exact zAd (λc e=>by rw[e] at hd;cases hd) hr (zCx hT0 E0 R A hn hdst hv ⟨.inl λh=>by rw[zTk];exact h,hK⟩)
 ·exact Oper.wpIn_mono (λa w hc=>hc.mono λs hs'=>⟨hs'.2,hs'.1⟩) (step_ok (F:=F) (yRx hC) hB hT0 hN E0 R A hn hdst hst)
def zNd (ops:Array Oper) (listed:Array Bool):Prop:=∀j oj,ops[j]?=some oj->listed.getD j true=true->∀e∈oj.after,Region.binds .any e=true->listed.getD e.on false=true
theorem zUb {listed:Array Bool} {j:Nat} (h:listed.getD j false=true):listed.getD j true=true:=by
 simp only[Array.getD_eq_getD_getElem?] at h ⊢
 cases hx:listed[j]? with
 |none=>rfl
 |some b=>rw[hx] at h;exact h
theorem yAo {listed:Array Bool} (hc:zNd ops listed) {i:Nat} (hi:i∈Region.ready .any ops listed):zNd ops (listed.setIfInBounds i true):=λj oj hj hl e he hb=>by
 obtain⟨_,o,ho,hall⟩:=mem_ready.1 hi
 by_cases hji:i=j
 ·subst hji
  rw[ho] at hj;cases hj
  exact getD_set_true (hall e he hb)
 ·rw[getD_set_ne true hji] at hl
  exact getD_set_true (hc j oj hj hl e he hb)
theorem zSn {i:Nat} {W:List Nat} (hW:∀w∈W,w=i\/∃w'∈W,w<w'/\∃o,ops[w']?=some o/\∃e∈o.after,Region.binds .any e=true/\e.on=w) (hi:∀w∈W,w<=i) {listed:Array Bool} (hc:zNd ops listed) (hr:i∈Region.ready .any ops listed) :
  ∀(n w:Nat),w∈W->i-w=n->w=i\/listed.getD w false=true:=by
 intro n
 induction n using Nat.strongRecOn with
 | _ n ih=>
  intro w hw hn
  rcases hW w hw with h|⟨w',hw',hlt,o,ho,e,he,hb,rfl⟩
  ·exact .inl h
  ·right
   have hwi:=hi w' hw'
   rcases ih (i-w') (by omega) w' hw' rfl with h|h
   ·subst h
    obtain⟨_,o2,ho2,hall⟩:=mem_ready.1 hr
    rw[ho] at ho2;cases ho2
    exact hall e he hb
   ·exact hc w' o ho (zUb h) e he hb
theorem zCz {i:Nat}:∀(j:Nat) (W:List Nat),(∀w∈W,w=i\/∃w'∈W,w<w'/\∃o,ops[w']?=some o/\∃e∈o.after,Region.binds .any e=true/\e.on=w)->(∀w∈W,j<=w/\w<=i)->j<=i->
  (∀w∈zEl ops.toList j W,w=i\/∃w'∈zEl ops.toList j W,w<w'/\∃o,ops[w']?=some o/\∃e∈o.after,Region.binds .any e=true/\e.on=w)/\(∀w∈zEl ops.toList j W,w<=i)
 |0,W,h1,h2,_=>⟨h1,λw hw=>(h2 w hw).2⟩
 | j +1,W,h1,h2,hj=>by
  simp only[zEl]
  split
  ·rename_i ha
   rw[List.any_eq_true] at ha
   obtain⟨⟨o,k⟩,hm,hc⟩:=ha
   simp only[Bool.and_eq_true] at hc
   have hk:=zFw hc.1
   obtain⟨e,he,hb,hon⟩:=zMb hc.2
   have hon:e.on=j:=by simpa using hon
   have ho:ops[k]?=some o:=by
    have:=List.mk_mem_zipIdx_iff_getElem?.1 hm
    simpa using this
   have hjk:=h2 k hk
   refine zCz j (j::W) (λw hw=>?_) (λw hw=>?_) (by omega)
   ·rcases List.mem_cons.1 hw with rfl|hw
    ·exact .inr ⟨k,List.mem_cons_of_mem _ hk,by omega,o,ho,e,he,hb,hon⟩
    ·rcases h1 w hw with h|⟨w',h3,h4⟩
     ·exact .inl h
     ·exact .inr ⟨w',List.mem_cons_of_mem _ h3,h4⟩
   ·rcases List.mem_cons.1 hw with rfl|hw
    ·exact⟨Nat.le_refl _,by omega⟩
    ·have:=h2 w hw;exact⟨by omega,this.2⟩
  ·exact zCz j W h1 (λw hw=>by have:=h2 w hw;exact⟨by omega,this.2⟩) (by omega)
theorem zRb :∀(l:List Oper) (k:Nat),yOy X.P C.pf F ops.toList l k=true->∀j o,l[j]?=some o->(zK X.P C.pf F o).isSt=true->
  ∀i oi,ops[i]?=some oi->(zK X.P C.pf F oi).onMem=true->i=k+j\/wX (zEl ops.toList (k+j) [k+j]) i=true
 |[],_,_,j,o,h,_=>by simp at h
 |p::r,k,h,0,o,ho,hk=>λi oi hi hm=>by
  simp only[yOy,Bool.and_eq_true] at h
  simp at ho;subst ho
  have h1:=h.1
  rw[hk] at h1
  simp only[List.all_eq_true] at h1
  have hmem:(oi,i)∈ops.toList.zipIdx:=List.mk_mem_zipIdx_iff_getElem?.2 (by simpa using hi)
  have:=h1 _ hmem
  simp only[hm,Bool.not_true,Bool.false_or,Bool.or_eq_true] at this
  rcases this with h2|h2
  ·exact .inl (Nat.eq_of_beq_eq_true h2)
  ·exact .inr h2
 |p::r,k,h,j+1,o,ho,hk=>λi oi hi hm=>by
  simp only[yOy,Bool.and_eq_true] at h
  have:=zRb r (k+1) h.2 j o (by simpa using ho) hk i oi hi hm
  rw[show k+(j+1)=k+1+j by omega]
  exact this
theorem yJe (hst:yOy X.P C.pf F ops.toList ops.toList 0=true) {listed:Array Bool} (hc:zNd ops listed) {i:Nat} {o:Oper} (hi:i∈Region.ready .any ops listed) (ho:ops[i]?=some o) (hk:(zK X.P C.pf F o).isSt=true) :
  ∀j oj,ops[j]?=some oj->(listed.setIfInBounds i true).getD j true=false->(zK X.P C.pf F oj).onMem=false:=λj oj hj hl=>by
 cases hm:(zK X.P C.pf F oj).onMem with
 |false=>rfl
 | true=>
  exfalso
  have h1:=zRb (C:=C) (F:=F) (X:=X) ops.toList 0 hst i o (by simpa using ho) hk j oj hj hm
  rw[Nat.zero_add] at h1
  have hw:=zCz (ops:=ops) (i:=i) i [i] (λw hw=>.inl (by simpa using hw)) (λw hw=>by simp at hw;omega) (Nat.le_refl _)
  have h2:j=i\/listed.getD j false=true:=by
   rcases h1 with h1|h1
   ·exact .inl h1
   ·exact zSn hw.1 hw.2 hc hi (i-j) j (zFw h1) rfl
  rcases h2 with rfl|h2
  ·obtain⟨h0,_⟩:=mem_ready.1 hi
   simp only[Array.getD_eq_getD_getElem?] at hl h0
   by_cases hlt:j<listed.size
   ·simp[hlt] at hl
   ·simp[Array.getElem?_eq_none (by omega:listed.size<=j)] at h0
  ·by_cases hji:i=j
   ·subst hji
    obtain⟨h0,_⟩:=mem_ready.1 hi
    rw[zUb h2] at h0;cases h0
   ·rw[getD_set_ne true hji,zUb h2] at hl;cases hl
theorem yNw (hC:zAc X C) (hB:B<=N) (hst:yOy X.P C.pf F ops.toList ops.toList 0=true) (hT0:Tidy w0 S0) (hN:N<=w0.heap.size) (hdst:∀o∈ops.toList,∀x,o.dst=some x->x<n) {Q:Exit->Act->World->Prop} (hQ:∀a w,zCh X B N n w0 S0 K a w->Q .normal a w) :
  ∀(fuel:Nat) (listed:Array Bool) (a:Act) (w:World),zNd ops listed->zCh X B N n w0 S0 (λst=>(Sub m0 st.m\/∀j oj,ops[j]?=some oj->listed.getD j true=false->(zK X.P C.pf F oj).onMem=false)/\yMq X F C m0 ops K fuel listed st) a w->wpAnyIn (FR rd) 0 X.P .any ops Q fuel listed a w
 |0,listed,a,w,_,h=>by
  have hr:Region.ready .any ops listed=[]:=by obtain⟨st,S,lb,h1,_⟩:=h;exact h1.2.1
  exact⟨hr,hQ _ _ (h.mono λs hs=>hs.2.2)⟩
 | fuel+1,listed,a,w,hcl,h=>by
  refine⟨λhr=>hQ _ _ (h.mono λs hs=>hs.2.1 hr),λi hi=>?_⟩
  obtain⟨hun,o,ho,_⟩:=mem_ready.1 hi
  obtain⟨st,S,lb,⟨hs,h1⟩,R,A,E,hn⟩:=h
  have hd:=h1.2 i hi o ho
  have hmem:o∈ops.toList:=by
   have:ops.toList[i]?=some o:=by simpa using ho
   exact List.mem_of_getElem? this
  have hdo:=hdst o hmem
  have hcl':=yAo hcl hi
  have ih:=yNw hC hB hst hT0 hN hdst hQ fuel (listed.setIfInBounds i true)
  have later:∀{m:Mem},(Sub m0 st.m->Sub m0 m)->(Sub m0 m\/∀j oj,ops[j]?=some oj->(listed.setIfInBounds i true).getD j true=false->(zK X.P C.pf F oj).onMem=false):=λhm=>by
   rcases hs with hs|hs
   ·exact .inl (hm hs)
   ·refine .inr λj oj hj hl=>hs j oj hj ?_
    by_cases hji:i=j
    ·subst hji;exact hun
    ·rw[getD_set_ne true hji] at hl;exact hl
  unfold wpOpIn
  simp only[ho]
  have run:doN C m0 o.dst (yMq X F C m0 ops K fuel (listed.setIfInBounds i true)) st (uJ X F C m0 o st)->o.wpIn (FR rd) 0 X.P a w (wpAnyIn (FR rd) 0 X.P .any ops Q fuel (listed.setIfInBounds i true)) Q:=λhh=>
   Oper.wpIn_mono (λa w hc=>ih a w hcl' (hc.mono λs ⟨h2,h3⟩=>⟨h2.elim (λh2=>later h2) (λh2=>.inr (yJe hst hcl hi ho h2)),h3⟩)) (yPs hC hB hT0 hN E R A hn hdo (hs.imp id λhs=>hs i o ho hun) hh)
  have skip:yMq X F C m0 ops K fuel (listed.setIfInBounds i true) (st.put o.dst (.tuple []))->wpAnyIn (FR rd) 0 X.P .any ops Q fuel (listed.setIfInBounds i true) (a.put o.dst undef) w:=λhh=>
   ih _ _ hcl' (zCx hT0 E R A hn hdo (yE.tuple [] #[] rfl (λj c v hc=>by simp at hc)) ⟨later (by rw[zTk];exact id),hh⟩)
  unfold zCd at hd
  cases hg:o.guard with
  |none=>
   rw[hg] at hd
   simp only[Region.wanted,hg,if_true]
   exact run hd
  | some jw=>
   obtain⟨j,want⟩:=jw
   rw[hg] at hd
   simp only at hd
   simp only[Region.wanted,hg]
   split at hd
   ·rename_i b hb
    have hy:=zIz A hb
    rw[hy]
    split at hd
    ·rename_i he
     have:b=want:=by cases b<;>cases want<;>simp[eqB] at he ⊢
     subst this
     simp only[beq_self_eq_true,if_true]
     exact run hd
    ·rename_i he
     have:((some b:Option Bool)==some want)=false:=by cases b<;>cases want<;>simp[eqB] at he ⊢
     simp only[this,Bool.false_eq_true,if_false]
     exact⟨λ_ _=>trivial,skip hd⟩
   ·rename_i hb
    have hy:=zIz A hb
    rw[hy]
    simp only[show ((none:Option Bool)==some want)=false from rfl,Bool.false_eq_true,if_false]
    exact⟨λ_ _=>trivial,skip hd⟩
   ·exact hd.elim
theorem vK.wf (A:vK N w S st lb a):WfR st:=λx k off h=>by
 have:=(A.regs x k off h).2
 intro e;rw[e] at this;cases this
theorem zZz (hC:zAc X C) (hB:B<=N) (hT0:Tidy w0 S0) (hN:N<=w0.heap.size) {id:Nat} (hdst:∀o∈ops.toList,∀x,o.dst=some x->x<n) {Q:Exit->Act->World->Prop} (hQ:∀a w,zCh X B N n w0 S0 K a w->Q .normal a w)
  (hl:yPg X.P C.pf F ops=true) (h:zCh X B N n w0 S0 (λst=>zBw X F C (yHd F id st) ops.toList ops.toList K st) a w):(Code.region id ops true).wpIn (FR rd) 0 X.P Q a w:=by
 simp only[yPg,Bool.and_eq_true] at hl
 obtain⟨l1,l3,l4⟩:=hl
 obtain⟨st,S,lb,h1,R,A,E,hn⟩:=h
 have hany:=yEf (C:=C) (F:=F) ops.toList 0 (Array.replicate ops.size false) st A.wf (λj=>by simp) l3 (λj hj=>by simp[hj]) h1
 refine wpIn_region_any l1 ?_
 have ED:Ext N w S w.drew S:=Ext.ofHeap rfl rfl rfl rfl
 have T:zCe X B N w S w.drew S:=⟨R.ofHeap rfl rfl rfl rfl,ED,λ_ _=>rfl,λ_ h=>h⟩
 have A':=A.step R.tidy T
 rw[zKu A] at A'
 have hcl:zNd ops (Array.replicate ops.size false):=λj oj hj hl=>by
  have hlt:=(Array.getElem?_eq_some_iff.1 hj).1
  simp[hlt] at hl
 exact yNw hC hB l4 (m0:=yHd F id st) (F:=F) hT0 hN hdst hQ ops.size (Array.replicate ops.size false) a w.drew hcl ⟨st,S,lb,⟨.inl (yYp F id st),by simpa using hany⟩,T.rel,A',E.trans hT0 ED,hn⟩
end
theorem zEu {n:Nat}:∀{l:List Oper},zWf n l=true->∀o∈l,∀x,o.dst=some x->x<n
 |[],_,o,ho,_,_=>by cases ho
 |p::r,h,o,ho,x,hx=>by
  simp only[zWf,Bool.and_eq_true] at h
  rcases List.mem_cons.1 ho with rfl|ho
  ·have:=h.1;rw[hx] at this;simpa using this
  ·exact zEu h.2 o ho x hx
section
variable {rd:Option Nat}
variable {X:Ctx} {F:Fi} {C:wC} {B N n:Nat} {w0 w w':World} {S0 S S':Sh} {st:St} {lb:Nat->Nat} {a:Act}
theorem zWx (f:Nat->D):∀(l:List Nat) (x:Nat),slL (zJg f l) x=f x\/slL (zJg f l) x=.undef
 |[],x=>.inr rfl
 |y::r,x=>by
  simp only[zJg,slL]
  split
  ·rename_i h;subst h;exact .inl rfl
  ·exact zWx f r x
theorem zFj {α:Type} (f:Nat->Option α):∀(l:List Nat) (x:Nat) (v:α),opL (zCj f l) x=some v->f x=some v
 |[],x,v,h=>by cases h
 | y::r,x,v,h=>by
  simp only[zCj] at h
  split at h
  ·rename_i u hu
   simp only[opL] at h
   split at h
   ·rename_i e;subst e;cases h;exact hu
   ·exact zFj f r x v h
  ·exact zFj f r x v h
theorem zLu {α:Type} (f:Nat->Option α):∀(l:List Nat) (x:Nat) (v:α),wX l x=true->f x=some v->opL (zCj f l) x=some v
 |[],x,v,h,_=>by cases h
 | y::r,x,v,h,hf=>by
  simp only[zCj]
  simp only[wX] at h
  by_cases e:y=x
  ·subst e
   rw[hf];simp[opL]
  ·rw[if_neg e] at h
   have ih:=zLu f r x v h hf
   split
   ·simp only[opL];rw[if_neg (λh=>e h.symm)];exact ih
   ·exact ih
theorem vK.keep (A:vK N w S st lb a) (l:List Nat):vK N w S (st.keep l) lb a where
 m:=A.m
 defers:=A.defers
 slots:=λx=>by
  show yE w S (slL (zJg st.sl l) x) _
  rcases zWx st.sl l x with h|h<;>rw[h]
  ·exact A.slots x
  ·exact .undef _
 regs:=λx k o h=>by
  have h1:=zFj (zZc l st.lp) l x (k,o) h
  have h2:st.lp x=some (k,o)/\wX l k=true:=by
   unfold zZc zKj at h1
   split at h1
   ·rename_i k' o' hl
    split at h1
    ·rename_i hm;cases h1;exact⟨hl,hm⟩
    ·cases h1
   ·cases h1
  obtain⟨h3,h4⟩:=A.regs x k o h2.1
  refine⟨h3,?_⟩
  obtain⟨c,hc⟩:=Option.isSome_iff_exists.1 h4
  have:=zLu st.bx l k c h2.2 hc
  show (opL (zCj st.bx l) k).isSome=true
  rw[this];rfl
 boxes:=λk cs h=>A.boxes k cs (zFj st.bx l k cs h)
 inj:=λk k' h h'=>by
  have conv:∀j,((st.keep l).bx j).isSome=true->(st.bx j).isSome=true:=λj hj=>by
   obtain⟨c,hc⟩:=Option.isSome_iff_exists.1 hj
   rw[zFj st.bx l j c hc];rfl
  exact A.inj k k' (conv k h) (conv k' h')
theorem zCh.keep {K:St->Prop} {l:List Nat} (h:zCh X B N n w0 S0 (λst=>K (st.keep l)) a w):zCh X B N n w0 S0 K a w:=
 let ⟨st,S,lb,h1,h2,h3,h4⟩:=h;⟨st.keep l,S,lb,h1,h2,h3.keep l,h4⟩
theorem zCe.trans {w1 w2:World} {S1 S2:Sh} (hT:Tidy w S) (T:zCe X B N w S w1 S1) (T':zCe X B N w1 S1 w2 S2):zCe X B N w S w2 S2:=
 ⟨T'.rel,T.ext.trans hT T'.ext,λb h=>(T'.priv b (T.muK b h)).trans (T.priv b h),λb h=>T'.muK b (T.muK b h)⟩
theorem yDe (f:Nat->D):∀(xs:List Nat) (x:Nat),slZ xs (xs.map f) x=f x\/slZ xs (xs.map f) x=.undef
 |[],x=>.inr rfl
 |y::r,x=>by
  simp only[List.map_cons,slZ]
  split
  ·rename_i e;subst e;exact .inl rfl
  ·exact yDe f r x
theorem zHc (R:yI X B w S) {id b:Nat} (hb:S.bb[id]?=some b) {F':Fi} {xs:List Nat} {sl:List D} {ps:List Nat} {p q:Code} {s j:Nat} (hx:S.m.boxes[id]?=some [.lrec F' xs sl ps p q s j]) (h3:s≠3) :
  ∃r:Loop,w.heap[b]?=some (.loop r)/\xEi r.state s/\yXd j=r.pending/\∀(ls:LoopState) (pe:Option Code) (s' j':Nat),xEi ls s'->yXd j'=pe->
   zCe X B N w S (w.putObj b (.loop { r with state:=ls,pending:=pe })) (S.setBox id [.lrec F' xs sl ps p q s' j']):=by
 obtain⟨r,hh,hs,hr⟩:=(R.boxes id b _ hb hx).2 _ rfl rfl
 obtain⟨h0,h1,h2,h4,h5,h6⟩:=hr h3
 refine⟨r,hh,hs,h0,λls pe s' j' hl hj=>?_⟩
 have E:=Ext.setObj (N:=N) R hb { r with state:=ls,pending:=pe } [.lrec F' xs sl ps p q s' j'] hh
 refine⟨R.setObj hb hx rfl hh ⟨_,World.putObj_heap_same (Array.getElem?_eq_some_iff.1 hh).1,hl,λ_=>⟨hj,h1,h2,h4,h5,λx=>(h6 x).mono E R.tidy⟩⟩,E,λc hc=>qA w _ (λe=>by subst e;exact R.bbMu _ (List.mem_of_getElem? hb) hc),λ_ h=>h⟩
theorem zRe {m m':Mem} {id s0 s:Nat} {j:Option Nat} (h:zOe m id s0 s j=some m'):∃F xs sl ps a c j',m.boxes[id]?=some [.lrec F xs sl ps a c s0 j']/\m'={ m with boxes:=m.boxes.set id [.lrec F xs sl ps a c s (j.getD j')] }:=by
 unfold zOe at h
 split at h
 ·rename_i F xs sl ps a c s' j' hx
  split at h
  ·rename_i he
   have:=Nat.eq_of_beq_eq_true he
   subst this
   cases h
   exact⟨F,xs,sl,ps,a,c,j',hx,rfl⟩
  ·cases h
 ·cases h
theorem yKu (hpf:C.pf=X.pf) (hN:N<=w.heap.size) (R:yI X B w S) (A:vK N w S st lb a) (hn:n<=a.tmps.size) {ps:Array Tmp} {c d:Code} (hps:(ps.toList.all λx=>decide (x<n))=true) (hnd:ps.toList.Nodup) (hc:vF X.P C.pf F n c=true) (hd:vF X.P C.pf F n d=true)
  (hrd:∀l,rd=some l->∃r,w.heap[l]?=some (.loop r)) (fn:Nat) :
  ∃l mark w1 S1,(Instr.enterLoop fn a.tmps ps c d rd).run X.P w=.ok (l,mark) w1/\zCe X B N w S w1 S1/\S1.bb=S.bb++[l]/\S1.m={ S.m with boxes:=S.m.boxes++[[yHv F st ps c d]] }/\zJj N w1 S1 (mark++a.defers):=by
 have main:∀{w':World} {S':Sh} (df:Nat),zCe X B N w S w' S'->S'.m=S.m->S'.bb=S.bb->
   zCe X B N w S (w'.alloc (.loop { state:=.ready,pending:=none,fn,tmps:=a.tmps,params:=ps,assign:=c,body:=d,defers:=df })) (S'.addBox w'.heap.size [yHv F st ps c d]):=λ{w' S'} df T hm hbb=>by
  have E:=Ext.allocBox (N:=N) T.rel (.loop { state:=.ready,pending:=none,fn,tmps:=a.tmps,params:=ps,assign:=c,body:=d,defers:=df }) [yHv F st ps c d]
  refine T.trans R.tidy ⟨T.rel.allocObj rfl ⟨_,wJ w' _,trivial,λ_=>⟨rfl,rfl,rfl,rfl,⟨n,hn,hps,hnd,hpf▸hc,hpf▸hd⟩,λx=>?_⟩⟩,E,zDo T.rel _,λ_ h=>h⟩
  rcases yDe st.sl (rfL F d) x with h|h<;>rw[h]
  ·exact((A.slots x).mono T.ext R.tidy).mono E T.rel.tidy
  ·exact .undef _
 cases rd with
 | none=>
  have T0:zCe X B N w S (w.alloc (.deferred (some []))) (S.addMu w.heap.size):=⟨R.allocMu _,Ext.allocMu R _,zDo R _,λ_ h=>.inr h⟩
  have T1:=main w.heap.size T0 rfl rfl
  refine⟨_,_,_,_,run_enterLoop_outer _ _ _ _ _,T1,?_,rfl,?_⟩
  ·show S.bb++[(w.alloc (.deferred (some []))).heap.size]=_
   rw[World.size_alloc]
  ·have M:=A.defers.to λb _ h=>⟨T1.muK b h,T1.priv b h⟩
   obtain⟨bs,e,hnd',hb⟩:=M
   obtain⟨bs0,e0,_,hb0⟩:=A.defers
   have hlt:∀b∈bs,b<w.heap.size:=λb hbm=>by
    have e1:bs.map zJp=bs0.map zJp:=e.symm.trans e0
    have:zJp b∈bs0.map zJp:=e1▸List.mem_map_of_mem hbm
    obtain⟨b',hb',he⟩:=List.mem_map.1 this
    have:b'=b:=by simpa [zJp] using he
    subst this
    exact R.mu _ (hb0 _ hb').2.1
   refine⟨w.heap.size::bs,by rw[List.map_cons,e];rfl,List.nodup_cons.2 ⟨λh=>by have:=hlt _ h;omega,hnd'⟩,λb hbm=>?_⟩
   rcases List.mem_cons.1 hbm with rfl|hbm
   ·exact⟨hN,.inl rfl,by rw[zU _ _ (by simp)];exact wJ w _⟩
   ·exact hb b hbm
 |some l0=>
  obtain⟨r0,h0⟩:=hrd l0 rfl
  have T1:=main r0.defers (zCe.refl R) rfl rfl
  refine⟨w.heap.size,[],_,_,?_,T1,rfl,rfl,A.defers.to λb _ h=>⟨T1.muK b h,T1.priv b h⟩⟩
  unfold Instr.enterLoop
  simp only[Sem.run_bind,run_getLoop h0,Result.andThen_ok,Sem.run_pure,run_newObj_alloc]
theorem zSt (hC:zAc X C) (hB:B<=N) (hT0:Tidy w0 S0) (hN:N<=w0.heap.size) (hrd:∀l,rd=some l->l∈S0.bb/\∃r,w0.heap[l]?=some (.loop r)) {g:Operand} {ps:Array Tmp} {c d:Code} (hc:vF X.P C.pf F n (.rangeFunc g ps c d)=true) {Q:zIt}
  (h:zCh X B N n w0 S0 (wpI X F C (.rangeFunc g ps c d) Q) a w):(Code.rangeFunc g ps c d).wpIn (FR rd) 0 X.P (λe=>zCh X B N n w0 S0 (Q e)) a w:=by
  obtain⟨st,S,lb,h,R,A,E,hn⟩:=h
  simp only[wpI] at h
  simp only[vF,Bool.and_eq_true,decide_eq_true_eq] at hc
  obtain⟨⟨hps,hnd⟩,hcc,hcd⟩:=hc
  split at h
  ·rename_i f cap hg
   split at h
   ·rename_i hf
    obtain⟨hen,hdet⟩:=yQb hf (hC.run _ _ _ _ h)
    have hv:=xP R A g
    rw[hg] at hv
    obtain⟨vs,hvg,hcap⟩:=yDt hv
    refine wpIn_rangeFunc λfn _=>?_
    obtain⟨l,mark,w1,S1,he,T1,hbb1,hm1,M1⟩:=yKu (rd:=rd) hC.pf (Nat.le_trans hN E.size) R A hn hps hnd hcc hcd (λl hl=>by
     obtain⟨h1,r,h2⟩:=hrd l hl
     exact E.lps l h1 r h2) fn
    have hid:S1.bb[st.m.boxes.length]?=some l:=by rw[hbb1,A.m,<-R.bbLen];simp
    have hargs:HasL w1 S1 (.yld st.m.boxes.length::cap) (#[Value.func (.yield l) #[] #[]]++vs).toList:=by
     have hcap':=HasL.mono T1.ext R.tidy hcap
     refine⟨by simp[hcap'.len],λj c v hj hv=>?_⟩
     cases j with
     |zero=>simp at hj hv;subst hj;subst hv;exact .yld _ l hid
     |succ j=>simp at hj hv;exact hcap'.at_ j c v hj (by simpa using hv)
    have hcall:=hdet B w1 S1 _ T1.rel (by rw[hm1,A.m]) hargs
    have hres:(resolve a.eval (rangeCall g l) 0).run X.P w1=.ok { target:=.fn (.func f) vs,args:=#[Value.func (.yield l) #[] #[]] } w1:=by
     simp only[resolve,hvg,Deferred.ofValue,Sem.run_pure]
     simp[Act.eval]
    have hinv:(invoke (.fn (.func f) vs) #[Value.func (.yield l) #[] #[]]).run X.P w1=.ok (.enter f (#[Value.func (.yield l) #[] #[]]++vs)) w1:=by
     simp only[invoke,zIf hen]
    refine⟨l,mark,w1,_,w1,f,_,w1,he,hres,λ_ _=>trivial,hinv,λh=>(by cases h),yEc (hcall.mono λe w3 h3=>?_)⟩
    obtain⟨v,S3,r,rfl,hq,R3,E3,_⟩:=h3
    have T3:zCe X B N w1 S1 w3 S3:=⟨R3,E3.mono (Nat.le_trans hN (Nat.le_trans E.size T1.ext.size)),λb hb=>E3.keep b (T1.rel.mu b hb) (λh=>T1.rel.bbMu b h hb) (λid k h=>T1.rel.tbMu id b k h hb) (.inl (T1.rel.mu b hb)),λb hb=>E3.mu b hb (T1.rel.mu b hb)⟩
    have hid3:=E3.bb _ _ hid
    unfold zCp at hq
    split at hq
    ·rename_i F' xs sl ps' p q s j hx
     obtain⟨hs1,hs3,hj⟩:=hq
     obtain⟨r3,hh3,hls,hpe,_⟩:=zHc (N:=N) R3 hid3 hx hs3
     have hbusy:r3.state≠.busy:=λe=>by
      rw[e] at hls
      match s,hls with
      |1,_=>exact hs1 rfl
     have EK:=Ext.setObj (N:=N) R3 hid3 { r3 with state:=.exhausted } [zOi] hh3
     have T4:zCe X B N w3 S3 (w3.putObj l (.loop { r3 with state:=.exhausted })) (S3.setBox st.m.boxes.length [zOi]):=
      ⟨R3.setObj hid3 hx rfl hh3 ⟨_,World.putObj_heap_same (Array.getElem?_eq_some_iff.1 hh3).1,trivial,λh=>absurd rfl h⟩,EK,λc hc=>qA w3 _ (λe=>by subst e;exact R3.bbMu _ (List.mem_of_getElem? hid3) hc),λ_ h=>h⟩
     have T:=(T1.trans R.tidy T3).trans R.tidy T4
     have A4:=A.step R.tidy T
     have M4:=M1.to λb _ h=>⟨T4.muK b (T3.muK b h),(T4.priv b (T3.muK b h)).trans (T3.priv b h)⟩
     have fin:∀{K:St->Prop},K (st.setM { S3.m with boxes:=S3.m.boxes.set st.m.boxes.length [zOi] })->zCh X B N n w0 S0 K { a with defers:=mark++a.defers } (w3.putObj l (.loop { r3 with state:=.exhausted })):=λhk=>
      ⟨_,_,lb,hk,T.rel,⟨A4.m,M4,A4.slots,A4.regs,A4.boxes,A4.inj⟩,E.trans hT0 T.ext,hn⟩
     obtain⟨pe,hpe'⟩:∃pe,pe=r3.pending:=⟨_,rfl⟩
     refine⟨pe,_,by rw[hpe'];exact run_endLoop hh3 hbusy,?_⟩
     obtain rfl:pe=yXd j:=hpe'.trans hpe.symm
     match j,hj with
     |0,hj=>exact fin hj
     |1,hj=>exact wpIn_ret (fin hj)
     |k+2,hj=>exact wpIn_exit (fin hj)
    ·exact hq.elim
   ·exact h.elim
  ·exact h.elim
theorem zEz (hC:zAc X C) (hB:B<=N) (hT0:Tidy w0 S0) (hN:N<=w0.heap.size) (hrd:∀l,rd=some l->l∈S0.bb/\∃r,w0.heap[l]?=some (.loop r)):∀(c:Code),vF X.P C.pf F n c=true->∀(Q:zIt) (a:Act) (w:World),zCh X B N n w0 S0 (wpI X F C c Q) a w->
  c.wpIn (FR rd) 0 X.P (λe=>zCh X B N n w0 S0 (Q e)) a w
 |.skip,_,Q,a,w,h=>wpIn_skip h
 | .region id ops dr,hc,Q,a,w,h=>by
  simp only[vF,Bool.and_eq_true] at hc
  obtain⟨hc,hx⟩:=hc
  cases dr with
  |false=>
   refine wpIn_region ?_
   have:=zWk (rd:=rd) hC hB (F:=F) hT0 hN (zEu hc) (K:=λst'=>Q .normal (st'.keep F.ext)) (Q:=λe=>zCh X B N n w0 S0 (Q e)) (λa w h=>h.keep) ops.toList 0 (λj=>by simp) a w h
   rw[List.range_eq_range']
   simpa using this
  |true=>
   have hl:wX F.bad id=false:=by obtain⟨st,S,lb,h1,_⟩:=h;exact h1.1
   simp only[hl,Bool.false_or] at hx
   have hl:=hx
   exact zZz hC hB hT0 hN (zEu hc) (K:=λst'=>Q .normal (st'.keep F.ext)) (λa w h=>h.keep) hl (h.mono λst h=>h.2)
 |.seq c d,hc,Q,a,w,h=>by
  simp only[vF,Bool.and_eq_true] at hc
  refine wpIn_seq (wpIn_mono (zEz hC hB hT0 hN hrd c hc.1 _ a w h) λe a w h=>?_)
  cases e with
  |normal=>exact zEz hC hB hT0 hN hrd d hc.2 Q a w h
  |exit id=>exact h
  |goto l=>exact h
  |ret=>exact h
  |panic c=>exact h
  |outgrown=>exact h
 | .cond o c d,hc,Q,a,w,h=>by
  simp only[vF,Bool.and_eq_true] at hc
  obtain⟨st,S,lb,h1,R,A,E,hn⟩:=h
  simp only[wpI] at h1
  split at h1
  ·rename_i t ht
   have hv:=xP R A o
   rw[ht] at hv
   have hv:=zCq hv
   cases t with
   |true=>exact wpIn_cond_true hv (zEz hC hB hT0 hN hrd c hc.1 Q a w ⟨st,S,lb,h1,R,A,E,hn⟩)
   |false=>exact wpIn_cond_false hv (zEz hC hB hT0 hN hrd d hc.2 Q a w ⟨st,S,lb,h1,R,A,E,hn⟩)
  ·exact h1.elim
 | .block id c,hc,Q,a,w,h=>by
  refine wpIn_block (wpIn_mono (zEz hC hB hT0 hN hrd c hc _ a w h) λe a w h=>?_)
  cases e with
  |exit id'=>
   simp only[Exit.inBlock]
   split
   ·rename_i e;exact h.mono λst h=>by simpa [qU,e] using h
   ·rename_i e;exact h.mono λst h=>by simpa [qU,e] using h
  |normal=>exact h
  |goto l=>exact h
  |ret=>exact h
  |panic c=>exact h
  |outgrown=>exact h
 |.exit id,_,Q,a,w,h=>wpIn_exit h
 |.ret,_,Q,a,w,h=>wpIn_ret h
 | .loop c,hc,Q,a,w,⟨st,S,lb,⟨T,head,I,μ,⟨p0,h0,hI⟩,hr⟩,R,A,E,hn⟩=>by
  have body:∀p,I p->∀a w,zCh X B N n w0 S0 (λs=>s=head p) a w->c.wpIn (FR rd) 0 X.P (λe=>zCh X B N n w0 S0 (zMo (λst'=>∃p',st'.keep (zBy F c)=head p'/\I p'/\μ p'<μ p) Q e)) a w:=λp hp a w h=>
   zEz hC hB hT0 hN hrd c hc _ a w (h.mono λs hs=>by subst hs;exact hr p hp)
  have start:zCh X B N n w0 S0 (λs=>s=head p0) a w:=⟨_,S,lb,h0,R,A.keep (zBy F c),E,hn⟩
  intro b k cs hro hb hr
  have key:∀(m:Nat) (p:T),μ p=m->I p->∀a w,zCh X B N n w0 S0 (λs=>s=head p) a w->
    ∃e a' w',zCh X B N n w0 S0 (Q e) a' w'/\ArrivesIn (Machine.fenced X.P (FR rd)) X.P (lone (b.atR a (.code c::.inLoop c::k)) cs w) b k cs e a' w':=by
   intro m
   induction m using Nat.strongRecOn with
   | _ m ih=>
    intro p hm hp a w hcn
    obtain⟨e,a₁,w₁,hq,harr⟩:=body p hp a w hcn b (.inLoop c::k) cs hro hb hr
    cases e with
    |normal=>
     obtain⟨st1,S1,lb1,⟨p',hk,hI',hlt⟩,R1,A1,E1,hn1⟩:=hq
     obtain⟨e₂,a₂,w₂,hq₂,harr₂⟩:=ih (μ p') (hm▸hlt) p' rfl hI' a₁ w₁ ⟨_,S1,lb1,hk,R1,A1.keep (zBy F c),E1,hn1⟩
     exact⟨e₂,a₂,w₂,hq₂,.of_steps (StepsIn.trans harr (.one (fenced_calm hb hr rfl) stepR_inLoop)) harr₂⟩
    |exit id=>exact⟨_,a₁,w₁,hq,.pass (x:=.inLoop c) rfl (λ_ _=>.inl (by simp)) harr⟩
    |goto l=>exact⟨_,a₁,w₁,hq,.pass (x:=.inLoop c) rfl (λ_ _=>.inl (by simp)) harr⟩
    |ret=>exact⟨_,a₁,w₁,hq,.pass (x:=.inLoop c) rfl (λ_ _=>.inl (by simp)) harr⟩
    |panic ch=>exact⟨_,a₁,w₁,hq,.pass (x:=.inLoop c) rfl (λ_ _=>.inl (by simp)) harr⟩
    |outgrown=>exact⟨_,a₁,w₁,hq,.pass (x:=.inLoop c) rfl (λ_ _=>.inl (by simp)) harr⟩
  obtain⟨e,a',w',hq,harr⟩:=key _ p0 rfl hI a w start
  exact⟨e,a',w',hq,.of_steps (.one (fenced_calm hb hr rfl) stepR_loop) harr⟩
 |.rangeFunc g ps c d,hc,Q,a,w,h=>zSt hC hB hT0 hN hrd hc h
 |.scope _,_,_,_,_,⟨_,_,_,h,_⟩=>h.elim
 |.label _,_,_,_,_,⟨_,_,_,h,_⟩=>h.elim
 |.goto _,_,_,_,_,⟨_,_,_,h,_⟩=>h.elim
 |.refuse _,_,_,_,_,⟨_,_,_,h,_⟩=>h.elim
end
section
variable {X:Ctx} {F:Fi} {B N n:Nat} {w0 w w':World} {S0 S S':Sh} {st:St} {lb:Nat->Nat} {a:Act}
theorem zIa :∀(ds:List D) (i x:Nat),slL (uW ds i) x=if i<=x then(ds[x-i]?).getD .undef else .undef
 |[],i,x=>by simp[uW,slL]
 | d::r,i,x=>by
  simp only[uW,slL]
  by_cases e:x=i
  ·subst e;simp
  ·rw[if_neg e,zIa r (i+1) x]
   by_cases h:i<=x
   ·rw[if_pos h,if_pos (by omega),show x-i=(x-(i+1))+1 by omega,List.getElem?_cons_succ]
   ·rw[if_neg h,if_neg (by omega)]
theorem yDm (R:yI X B w S) (A:vK N w S st lb a) (f:ResultVar->Sem Value) (f1:∀t,f (.tmp t)=pure (a.tmps.getD t undef)) (f2:∀p t,f (.cell p t)=do loadVar t (<-asAddr (a.tmps.getD p undef))):∀(rs:List ResultVar) (ds:List D),yHu X st rs=some ds->
  ∃vs:List Value,(rs.mapM f).run X.P w=.ok vs w/\HasL w S ds vs
 |[],ds,h=>by cases h;exact⟨[],by simp,rfl,λj c v hc=>by simp at hc⟩
 | r ::rs,ds,h=>by
  simp only[yHu] at h
  split at h
  ·rename_i d ds' h1 h2
   cases h
   obtain⟨vs,hr,hl⟩:=yDm R A f f1 f2 rs ds' h2
   have one:∃v,(f r).run X.P w=.ok v w/\yE w S d v:=by
    cases r with
    |tmp t=>simp only[zMw] at h1;cases h1;exact⟨_,by rw[f1];rfl,A.slots t⟩
    | cell p t=>
     simp only[zMw] at h1
     split at h1
     ·rename_i cs off hp
      rw[A.m] at hp
      obtain⟨b,base,he,L⟩:=zXf R A (λ_ _ h=>h) hp
      obtain⟨v,hv,hvv⟩:=zWt L h1
      have he:a.tmps.getD p undef=_:=he
      exact⟨v,by simp only[f2,he,asAddr,Sem.run_bind,Sem.run_pure,Result.andThen_ok,hv],hvv⟩
     ·cases h1
   obtain⟨v,hv1,hv2⟩:=one
   refine⟨v::vs,?_,⟨by simp[hl.len],λj c u hc hu=>?_⟩⟩
   ·rw[List.mapM_cons]
    simp only[Sem.run_bind,hv1,Result.andThen_ok,hr,Sem.run_pure]
   ·cases j with
    |zero=>simp at hc hu;subst hc;subst hu;exact hv2
    |succ j=>simp at hc hu;exact hl.at_ j c u hc hu
  ·cases h
theorem zZy (fn:Func) (tmps:Array Value):∃f:ResultVar->Sem Value,(∀t,f (.tmp t)=pure (tmps.getD t undef))/\(∀p t,f (.cell p t)=do loadVar t (<-asAddr (tmps.getD p undef)))/\
  results fn tmps=(do let vs <-fn.results.mapM f;pure (if h:vs.size=1 then vs[0] else .tuple vs)):=by
 refine⟨_,?_,?_,rfl⟩
 ·intro t;rfl
 ·intro p t;rfl
theorem zZx (R:yI X B w S) (A:vK N w S st lb a) {fn:Func} {r:D} (h:yGz X fn.results.toList st=some r):∃v,(results fn a.tmps).run X.P w=.ok v w/\yE w S r v:=by
 unfold yGz at h
 have main:∀ds,yHu X st fn.results.toList=some ds->∃vs:Array Value,(results fn a.tmps).run X.P w=.ok (if h:vs.size=1 then vs[0] else .tuple vs) w/\HasL w S ds vs.toList:=λds hd=>by
  obtain⟨f,f1,f2,hf⟩:=zZy fn a.tmps
  rw[hf,Array.mapM_eq_mapM_toList]
  simp only[Sem.run_bind,Sem.run_map]
  obtain⟨vs,hr,hl⟩:=yDm R A f f1 f2 _ ds hd
  refine⟨vs.toArray,?_,by simpa using hl⟩
  rw[hr]
  simp
 split at h
 ·rename_i d hd
  cases h
  obtain⟨vs,hr,hl⟩:=main _ hd
  have hs:vs.size=1:=by have:=hl.len;simpa using this.symm
  refine⟨_,hr,?_⟩
  rw[dif_pos hs]
  exact hl.at_ 0 _ _ rfl (by simp[hs])
 ·rename_i ds hne hd
  cases h
  obtain⟨vs,hr,hl⟩:=main _ hd
  have hs:¬vs.size=1:=λe=>by
   have:ds.length=1:=by have:=hl.len;simpa [e] using this
   match ds,this with
   |[d],_=>exact hne d rfl
  refine⟨_,hr,?_⟩
  rw[dif_neg hs]
  exact .tuple ds vs (by simpa using hl.len) (λj c v hc hv=>hl.at_ j c v hc (by simpa using hv))
 ·cases h
theorem zRr {P:Program} {fn:Func} {tmps:Array Value} {Rr:Ending->World->Prop}:∀(bs:List Nat) (w:World),yI X B w S->vK N w S st lb { tmps:=tmps,defers:=[] }->bs.Nodup->(∀b∈bs,N<=b/\S.mu b/\w.heap[b]?=some (.deferred (some [])))->
  (∀w',yI X B w' S->vK N w' S st lb { tmps:=tmps,defers:=[] }->Ext N w S w' S->∃v,(results fn tmps).run P w'=.ok v w'/\Rr (.returned v) w')->LeavesInM (FR none) 0 P fn tmps Rr (bs.map zJp) .returning w
 |[],w,R,A,_,_,h=>h w R A (Ext.refl N w S)
 | b::bs,w,R,A,hnd,hb,h=>by
  obtain⟨h1,h2,h3⟩:=hb b (List.mem_cons_self ..)
  have hnd:=List.nodup_cons.1 hnd
  have E:=Ext.putMu (N:=N) R h2 h1 (.deferred none)
  have A':vK N (w.putObj b (.deferred none)) S st lb { tmps:=tmps,defers:=[] }:={
   m:=A.m
   defers:=zJj.nil
   slots:=λx=>(A.slots x).mono E R.tidy
   regs:=A.regs
   boxes:=λk cs hk=>by
    obtain⟨k1,k2,vs,t,k3,k4⟩:=A.boxes k cs hk
    exact⟨k1,k2,vs,t,by rw[World.putObj_heap_other (λe=>by rw[e,h3] at k3;cases k3)];exact k3,k4.mono E R.tidy⟩
   inj:=A.inj }
  refine⟨λe=>(by cases e),.inl ⟨b,_,rfl,run_takeDeferred h3,?_⟩⟩
  exact zRr bs _ (R.putMu h2 _) A' hnd.2 (λc hc=>by
   obtain⟨k1,k2,k3⟩:=hb c (List.mem_cons_of_mem _ hc)
   exact⟨k1,k2,by rw[World.putObj_heap_other (λe=>by subst e;exact hnd.1 hc)];exact k3⟩) λw' R' A' E'=>h w' R' A' (E.trans R.tidy E')
theorem ySi {C:wC} (hC:zAc X C) {f:Nat} {fn:Func} {c:Code} {m:Mem} {ds:List D} {Q:D->Mem->Prop} (F:Fi) (hf:X.P.funcs[f]?=some fn) (hb:fn.body=some c) (hen:zBc X.P f=true) (hok:vF X.P C.pf F fn.ntmps c=true)
  (hl:ds.length<=fn.ntmps) (h:wpI X F C c (xU X fn.results.toList Q) (zIn ds m)):qJ X f m ds Q:=by
 refine⟨hen,λB w S args R hm ha=>(callsIn_wide (n:=0)).1 (callsIn_of_wp_marks (F:=FR none) hf hb trivial ?_)⟩
 have hal:args.size=ds.length:=by have:=ha.len;simpa using this.symm
 have hsz:(args++Array.replicate (fn.ntmps-args.size) undef).size=fn.ntmps:=by simp;omega
 have A:vK w.heap.size w S (zIn ds m) (λ_=>0) { tmps:=args++Array.replicate (fn.ntmps-args.size) undef,defers:=[] }:={
  m:=hm.symm
  defers:=zJj.nil
  slots:=λx=>by
   show yE w S (slL (uW ds 0) x) _
   rw[zIa,if_pos (Nat.zero_le _),Nat.sub_zero]
   rcases Nat.lt_or_ge x ds.length with hx|hx
   ·have h1:ds[x]?=some ds[x]:=List.getElem?_eq_getElem hx
    have hxa:x<args.size:=by omega
    rw[h1]
    refine ha.at_ x _ _ h1 ?_
    have h2:x<args.toList.length:=by simpa using hxa
    rw[List.getElem?_eq_getElem h2]
    have hx2:x<(args++Array.replicate (fn.ntmps-args.size) undef).size:=by rw[hsz];omega
    simp only[Array.getD_eq_getD_getElem?,Array.getElem?_eq_getElem hx2,Option.getD_some]
    rw[Array.getElem_append_left hxa];simp
   ·rw[List.getElem?_eq_none hx];exact .undef _
  regs:=λx k o h=>by cases h
  boxes:=λk cs h=>by cases h
  inj:=λk k' h=>by cases h }
 refine wpIn_mono (zEz (rd:=none) hC R.base (F:=F) (n:=fn.ntmps) R.tidy (Nat.le_refl _) (λl h=>by cases h) c hok _ _ w ⟨_,S,_,h,R,A,Ext.refl _ w S,by rw[hsz];exact Nat.le_refl _⟩) λe a' w' hc=>?_
 obtain⟨st,S',lb,hq,R',A',E,_⟩:=hc
 have fin:(match yGz X fn.results.toList st with|some r=>Q r st.m|none=>False)->LeavesInM (FR none) 0 X.P fn a'.tmps (λe w'=>∃v S' r,e=.returned v/\Q r S'.m/\yI X B w' S'/\Ext w.heap.size w S w' S'/\yE w' S' r v) a'.defers .returning w':=λhq=>by
  split at hq
  ·rename_i r hr
   obtain⟨bs,e,hnd,hb⟩:=A'.defers
   rw[e]
   refine zRr bs w' R' ⟨A'.m,zJj.nil,A'.slots,A'.regs,A'.boxes,A'.inj⟩ hnd hb λw2 R2 A2 E2=>?_
   obtain⟨v,h1,h2⟩:=zZx R2 A2 hr
   exact⟨v,h1,v,S',r,rfl,A'.m▸hq,R2,E.trans R.tidy E2,h2⟩
  ·exact hq.elim
 cases e with
 |normal=>exact fin hq
 |ret=>exact fin hq
 |exit id=>exact hq.elim
 |goto l=>exact hq.elim
 |panic c=>exact hq.elim
 |outgrown=>exact hq.elim
theorem yDf :∀(ps:List Nat) (ds:List D) (r:List (Nat×D)) (x:Nat),slL (ps.zip ds++r) x=(match (ps.zip ds).find? (λp=>decide (p.1=x)) with|some p=>p.2|none=>slL r x)
 |[],ds,r,x=>rfl
 |p::ps,[],r,x=>rfl
 | p::ps,d::ds,r,x=>by
  simp only[List.zip_cons_cons,List.cons_append,slL,List.find?_cons]
  by_cases e:x=p
  ·subst e;simp
  ·rw[if_neg e,yDf ps ds r x]
   simp[show ¬p=x from λh=>e h.symm]
theorem yDg :∀(xs:List Nat) (sl:List D) (x:Nat),slL (xs.zip sl) x=slZ xs sl x
 |[],sl,x=>by cases sl<;>rfl
 |y::r,[],x=>rfl
 |y::r,d::s,x=>by
  simp only[List.zip_cons_cons,slL,slZ,yDg r s x]
theorem zNk {w:World} {S:Sh} {f:Nat->D}:∀(ps:List Nat) (ds:List D) (vs:List Value) (tmps:Array Value),ps.Nodup->(∀p∈ps,p<tmps.size)->ds.length=ps.length->HasL w S ds vs->
  (∀x,yE w S (f x) (tmps.getD x undef))->∀x,yE w S (match (ps.zip ds).find? (λp=>decide (p.1=x)) with|some p=>p.2|none=>f x) (((ps.zip vs).foldl (λt q=>t.setIfInBounds q.1 q.2) tmps).getD x undef)
 |[],_,_,tmps,_,_,_,_,h,x=>h x
 |p::ps,[],_,_,_,_,hl,_,_,_=>by cases hl
 |p::ps,d::ds,[],_,_,_,_,hv,_,_=>by have:=hv.len;cases this
 | p::ps,d::ds,v::vs,tmps,hnd,hlt,hl,hv,h,x=>by
  have hnd:=List.nodup_cons.1 hnd
  have hp:=hlt p (List.mem_cons_self ..)
  have hd:yE w S d v:=hv.at_ 0 d v rfl rfl
  have ih:=zNk (f:=λy=>if y=p then d else f y) ps ds vs (tmps.setIfInBounds p v) hnd.2 (λq hq=>by rw[Array.size_setIfInBounds];exact hlt q (List.mem_cons_of_mem _ hq)) (by simpa using hl)
   ⟨by have:=hv.len;simpa using this,λj c u hc hu=>hv.at_ (j+1) c u hc hu⟩ (λy=>by
    rw[zBn _ _ _ _ hp]
    by_cases e:y=p
    ·rw[if_pos e,if_pos e];exact hd
    ·rw[if_neg e,if_neg e];exact h y) x
  simp only[List.zip_cons_cons,List.foldl_cons,List.find?_cons]
  by_cases e:p=x
  ·subst e
   have hno:(ps.zip ds).find? (λq=>decide (q.1=p))=none:=by
    rw[List.find?_eq_none]
    intro q hq
    have:=(List.of_mem_zip hq).1
    simp only[decide_eq_true_eq]
    intro e;subst e;exact hnd.1 this
   rw[hno] at ih
   simpa using ih
  ·simp only[e,decide_false]
   simp only[show ¬x=p from λh=>e h.symm,if_false] at ih
   exact ih
theorem yEw {C:wC} (hC:zAc X C) {id:Nat} {m:Mem} {ds:List D} {Q:D->Mem->Prop} (h:zGu X C id Q m ds):zHt X id m ds Q:=by
 intro B w S args R hm ha
 subst hm
 unfold zGu at h
 split at h
 ·rename_i F xs sl ps c d hx
  obtain⟨hlen,h⟩:=h
  have hid:id<S.bb.length:=by rw[R.bbLen];exact zJ hx
  obtain⟨b,hb⟩:∃b,S.bb[id]?=some b:=⟨_,List.getElem?_eq_getElem hid⟩
  obtain⟨r,hh,hs,hr⟩:=(R.boxes id b _ hb hx).2 _ rfl rfl
  obtain⟨_,rfl,rfl,rfl,⟨n,hn,hps,hnd,hca,hcb⟩,hsl⟩:=hr (by decide)
  have hal:args.size=r.params.size:=by have:=ha.len;simp at this hlen;omega
  refine⟨b,r,hb,hh,hal,λrd=>roundIn_of_wpIn (F:=FR rd) trivial ?_⟩
  have hsz:∀(l:List (Nat×Value)) (t:Array Value),(l.foldl (λt q=>t.setIfInBounds q.1 q.2) t).size=t.size:=λl=>by
   induction l with
   |nil=>intro t;rfl
   |cons q l ih=>intro t;rw[List.foldl_cons,ih,Array.size_setIfInBounds]
  have hfold:(r.params.zip args).foldl (λtmps (t,a)=>tmps.setIfInBounds t a) r.tmps=(r.params.toList.zip args.toList).foldl (λt q=>t.setIfInBounds q.1 q.2) r.tmps:=by
   rw[<-Array.foldl_toList,Array.toList_zip]
  rw[hfold]
  have A0:vK w.heap.size w S ⟨slL (r.params.toList.zip ds++xs.zip sl),opL [],opL [],S.m⟩ (λ_=>0) { tmps:=(r.params.toList.zip args.toList).foldl (λt q=>t.setIfInBounds q.1 q.2) r.tmps,defers:=[] }:={
   m:=rfl
   defers:=zJj.nil
   slots:=λx=>by
    show yE w S (slL (r.params.toList.zip ds++xs.zip sl) x) _
    rw[yDf,yDg]
    exact zNk (f:=slZ xs sl) _ ds args.toList r.tmps hnd (λp hp=>by
     have:=List.all_eq_true.1 hps p hp
     simp only[decide_eq_true_eq] at this;omega) hlen ha hsl x
   regs:=λx k o h=>by cases h
   boxes:=λk cs h=>by cases h
   inj:=λk k' h=>by cases h }
  have hrd:∀l,some b=some l->l∈S.bb/\∃r,w.heap[l]?=some (.loop r):=λl e=>by cases e;exact⟨List.mem_of_getElem? hb,r,hh⟩
  refine wpIn_mono (zEz (rd:=some b) hC R.base (F:=F) (n:=n) R.tidy (Nat.le_refl _) hrd r.assign (hC.pf▸hca) _ _ w ⟨_,S,_,h,R,A0,Ext.refl _ w S,by rw[hsz];exact hn⟩) λe a1 w1 hc=>?_
  obtain⟨st1,S1,lb1,hq,R1,A1,E1,hn1⟩:=hc
  cases e with
  | normal=>
   simp only[zFg] at hq
   split at hq
   ·rename_i m1 hset
    obtain⟨F1,xs1,sl1,ps1,p1,q1,j1,hx1,rfl⟩:=zRe hset
    rw[A1.m] at hx1
    obtain⟨r1,hh1,hs1,hj1,T1⟩:=zHc (N:=w.heap.size) R1 (E1.bb _ _ hb) hx1 (by decide)
    have hrs:r1.state=.ready:=by
     cases hst:r1.state<;>rw[hst] at hs1<;>first|rfl|exact hs1.elim
    have T1:=T1 .busy r1.pending 1 j1 trivial hj1
    refine⟨_,run_beginRound hh1 hrs,?_⟩
    refine wpIn_mono (zEz (rd:=some b) hC R.base (F:=F) (n:=n) R.tidy (Nat.le_refl _) hrd r.body (hC.pf▸hcb) _ _ _ ⟨_,_,lb1,hq,T1.rel,by
     have:=A1.step R1.tidy T1
     rw[A1.m];exact this,E1.trans R.tidy T1.ext,hn1⟩) λe a2 w2 hc=>?_
    obtain⟨st2,S2,lb2,hq,R2,A2,E2,hn2⟩:=hc
    have fin:∀(jump:Option Code) (s j:Nat) (v:Bool) (m:Mem),zOe st2.m id 1 s (some j)=some m->yXd j=jump->xEi (if jump.isNone then .ready else .done) s->v=jump.isNone->Q (.bool v) m->
      ∃v w',(Instr.endRound b jump).run X.P w2=.ok v w'/\∃v' S' r,Ending.returned v=.returned v'/\Q r S'.m/\yI X B w' S'/\Ext w.heap.size w S w' S'/\yE w' S' r v':=λjump s j v m hset hj hl hv hq=>by
     obtain⟨F3,xs3,sl3,ps3,p3,q3,j3,hx3,rfl⟩:=zRe hset
     rw[A2.m] at hx3 hq
     obtain⟨r3,hh3,_,_,T3⟩:=zHc (N:=w.heap.size) R2 (E2.bb _ _ hb) hx3 (by decide)
     have T3:=T3 (if jump.isNone then .ready else .done) jump s j hl hj
     refine⟨_,_,run_endRound jump hh3,_,_,_,rfl,hq,T3.rel,E2.trans R.tidy T3.ext,?_⟩
     rw[hv];exact .bool _
    cases e with
    |normal=>
     simp only[zBx] at hq
     split at hq
     ·rename_i m hm;exact fin none 0 0 true m hm rfl trivial rfl hq
     ·exact hq.elim
    |ret=>
     simp only[zBx] at hq
     split at hq
     ·rename_i m hm;exact fin (some .ret) 2 1 false m hm rfl trivial rfl hq
     ·exact hq.elim
    |exit k=>
     simp only[zBx] at hq
     split at hq
     ·rename_i m hm;exact fin (some (.exit k)) 2 (k+2) false m hm rfl trivial rfl hq
     ·exact hq.elim
    |goto l=>exact hq.elim
    |panic c=>exact hq.elim
    |outgrown=>exact hq.elim
   ·exact hq.elim
  |exit id=>exact hq.elim
  |goto l=>exact hq.elim
  |ret=>exact hq.elim
  |panic c=>exact hq.elim
  |outgrown=>exact hq.elim
 ·exact h.elim
end
section
variable {f:Nat->Nat->Nat->Nat->D}
theorem yG :∀(l:List D),(zC f l).length=l.length
  |[]=>rfl
  |d::r=>by simp[zC,yG r]
theorem yX :∀(l:List D) (j:Nat) (c:D),(zC f l)[j]?=some c->∃d,l[j]?=some d/\c=zF f d
  |[],j,c,h=>by simp[zC] at h
  |d::r,0,c,h=>by simp[zC] at h;exact⟨d,rfl,h.symm⟩
  | d::r,j+1,c,h=>by
    simp only[zC,List.getElem?_cons_succ] at h
    exact yX r j c h
theorem vJ :∀(a b:List D),zC f (a++b)=zC f a++zC f b
  |[],b=>rfl
  |d::r,b=>by simp[zC,vJ r b]
theorem zPv (hf:∀a b c d,(f a b c d).isCell=true) {d:D} (h:d.isCell=true):(zF f d).isCell=true:=by
  cases d<;>first|exact hf _ _ _ _|rfl|(cases h;done)
theorem xT (hf:∀a b c d,(f a b c d).isCell=true):∀(l:List D),(∀c∈l,c.isCell=true)->∀c∈zC f l,c.isCell=true
  |[],_,c,h=>by simp[zC] at h
  | d::r,hl,c,h=>by
    simp only[zC,List.mem_cons] at h
    rcases h with rfl|h
    · exact zPv hf (hl d (List.mem_cons_self ..))
    · exact xT hf r (λc hc=>hl c (List.mem_cons_of_mem _ hc)) c h
theorem zHw (hf:∀a b c d,(f a b c d).isCell=true) (d:D):(zF f d).cells=zC f d.cells:=by
  cases d<;>first|rfl|skip
  all_goals
    first
    | (rename_i a b c d
       have:=hf a b c d
       show (f a b c d).cells=[f a b c d]
       generalize f a b c d=x at this
       cases x<;>first|rfl|cases this)
    | (rename_i a b
       have:=hf a b 0 0
       show (f a b 0 0).cells=[f a b 0 0]
       generalize f a b 0 0=x at this
       cases x<;>first|rfl|cases this)
theorem zAi (hf:∀a b c d,(f a b c d).isCell=true):∀(es:List D),zV (zC f es)=zC f (zV es)
  |[]=>rfl
  |d::r=>by simp only[zC,zV,zHw hf,vJ,zAi hf r]
theorem zCc (hf:∀a b c d,(f a b c d).isCell=true) {k:Nat}:∀(es:List D),(∀d∈es,d.cells.length=k)->∀d∈zC f es,d.cells.length=k
  |[],_,d,h=>by simp[zC] at h
  | e::r,hl,d,h=>by
    simp only[zC,List.mem_cons] at h
    rcases h with rfl|h
    · rw[zHw hf,yG];exact hl e (List.mem_cons_self ..)
    · exact zCc hf r (λc hc=>hl c (List.mem_cons_of_mem _ hc)) d h
end
theorem zHf (a b c d:Nat):(noR a b c d).isCell=true:=rfl
theorem qY (m:Mem):∀(n a b c d:Nat),(vM m n a b c d).isCell=true
  |0,_,_,_,_=>rfl
  | n +1,a,b,c,d=>by
    simp only[vM]
    split
    · rename_i cs _
      split
      · rfl
      · cases decide (b+c*d<=cs.length)<;>rfl
    · rfl
theorem zBt (l:List D):(zH l).length=l.length:=yG l
mutual
theorem zZn :∀(d:D),strip (strip d)=strip d
  |.slice _ k es=>by have:=vO es;simp only[strip,zH] at this;simp only[strip,zF,this]
  |.rsl _ _ _ _=>rfl
  |.ptr _ _=>rfl
  |.ref cs o=>by have:=vO cs;simp only[strip,zH] at this;simp only[strip,zF,this]
  |.func f cs=>by have:=vO cs;simp only[strip,zH] at this;simp only[strip,zF,this]
  |.agg cs=>by have:=vO cs;simp only[strip,zH] at this;simp only[strip,zF,this]
  |.tuple cs=>by have:=vO cs;simp only[strip,zH] at this;simp only[strip,zF,this]
  |.int _ _=>rfl
  |.bool _=>rfl
  |.str _=>rfl
  |.nil=>rfl
  |.opq=>rfl
  |.nilptr=>rfl
  |.nilfunc=>rfl
  |.undef=>rfl
  |.yld _=>rfl
  |.mp _=>rfl
  |.nilmp=>rfl
  |.itr _=>rfl
  |.lrec _ _ _ _ _ _ _ _=>rfl
  |.mrec _ _=>rfl
  |.mit _ _ _=>rfl
theorem vO :∀(l:List D),zH (zH l)=zH l
  |[]=>rfl
  | d::r=>by
    have h1:=zZn d
    have h2:=vO r
    simp only[strip,zH] at h1 h2
    simp only[zH,zC,h1,h2]
end
section
variable {X:Ctx} {B N:Nat} {w w':World} {S S':Sh}
def yPj (d:D) (id off len k:Nat):Prop:=d=.rsl id off len k\/(d=.ptr id off/\len=0/\k=0)
theorem zBl {f:Nat->Nat->Nat->Nat->D} (hf:∀a b c d,(f a b c d).isCell=true) (hV:∀b n,Vis w S b n->Vis w S' b n)
    (hR:∀(id off len k:Nat) (d:D) (v:Value),yPj d id off len k->yE w S d v->yE w S' (f id off len k) v) {d:D} {v:Value} (h:yE w S d v):yE w S' (zF f d) v:=by
  induction h with
  |int k n=>exact .int k n
  |bool b=>exact .bool b
  |str s=>exact .str s
  |nil=>exact .nil
  |opq v h=>exact .opq v h
  |rsl id off len k b cap hk hl hb hsh=>exact hR id off len k _ _ (.inl rfl) (.rsl id off len k b cap hk hl hb hsh)
  |slice0 t k a c h=>exact .slice0 none k a c (.inl rfl)
  | slice tag k es b off cap vals hk hcap hbig hsz hcl hvis htag hcell hv ih=>
    rw[<-yG (f:=f) es]
    refine .slice none k (zC f es) b off cap vals hk (by rw[yG];exact hcap) (by rw[yG];exact hbig) (zCc hf es hsz) (by rw[zAi hf];exact xT hf _ hcl)
      (by rw[yG];exact hV _ _ hvis) trivial (λj c hj=>?_) (λj c hj=>?_)
    · rw[zAi hf] at hj
      obtain⟨d,hd,_⟩:=yX _ _ _ hj
      exact hcell j d hd
    · rw[zAi hf] at hj
      obtain⟨d,hd,rfl⟩:=yX _ _ _ hj
      exact ih j d hd
  |ptr id off b hb=>exact hR id off 0 0 _ _ (.inr ⟨rfl,rfl,rfl⟩) (.ptr id off b hb)
  |nilptr=>exact .nilptr
  | ref cs o b base vals hcl hvis hcell hv ih=>
    refine .ref (zC f cs) o b base vals (xT hf _ hcl) (by rw[yG];exact hV _ _ hvis) (λj c hj=>?_) (λj c hj=>?_)
    · obtain⟨d,hd,_⟩:=yX _ _ _ hj
      exact hcell j d hd
    · obtain⟨d,hd,rfl⟩:=yX _ _ _ hj
      exact ih j d hd
  | func g cap vs hl hv ih=>
    refine .func g (zC f cap) vs (by rw[yG];exact hl) (λj c v hj hv=>?_)
    obtain⟨d,hd,rfl⟩:=yX _ _ _ hj
    exact ih j d v hd hv
  |nilfunc=>exact .nilfunc
  | agg cs vs hl hcl hv ih=>
    refine .agg (zC f cs) vs (by rw[yG];exact hl) (xT hf _ hcl) (λj c v hj hv=>?_)
    obtain⟨d,hd,rfl⟩:=yX _ _ _ hj
    exact ih j d v hd hv
  | tuple ds vs hl hv ih=>
    refine .tuple (zC f ds) vs (by rw[yG];exact hl) (λj c v hj hv=>?_)
    obtain⟨d,hd,rfl⟩:=yX _ _ _ hj
    exact ih j d v hd hv
  |undef v=>exact .undef v
  |yld id b hb=>exact .opq _ rfl
  |mp id b hb=>exact .opq _ rfl
  |nilmp=>exact .nilmp
  |itr id b hb=>exact .opq _ rfl
theorem zVy (id off len k:Nat) (d:D) (v:Value) (hl:yPj d id off len k) (h:yE w S d v):yE w S' (noR id off len k) v:=by
  rcases hl with rfl|⟨rfl,_,_⟩
  · cases h with
    |rsl=>exact .opq _ rfl
  · cases h with
    |ptr=>exact .opq _ rfl
theorem yEn (hV:∀b n,Vis w S b n->Vis w S' b n) {ds:List D} {vs:List Value} (h:HasL w S ds vs):HasL w S' (zH ds) vs:=
  ⟨by rw[zBt];exact h.len,λj c v hj hv=>by
    obtain⟨d,hd,rfl⟩:=yX _ _ _ hj
    exact zBl zHf hV zVy (h.at_ j d v hd hv)⟩
theorem zDq {m:Mem} {n id off len k:Nat} {cs:List D} (h:uN m id=some cs) (hk:0<k):vM m (n+1) id off len k=bif decide (off+len*k<=cs.length) then .slice none k (wI k len (zC (vM m n) (cs.drop off))) else .opq:=by
  simp only[vM,h]
  cases k with
  |zero=>omega
  |succ k=>rfl
theorem zUe (R:yI X B w S) (hV:∀b n,Vis w S b n->Vis w S' b n) (hB:∀b n,b∈S.bb->Vis w S' b n) :
    ∀(n id off len k:Nat) (d:D) (v:Value),yPj d id off len k->yE w S d v->yE w S' (vM S.m n id off len k) v
  |0,_,_,_,_,_,_,hl,h=>zVy _ _ _ _ _ _ hl h
  | n + 1,id,off,len,k,d,v,hld,h=>by
    have ih:=zUe R hV hB n
    have hf:=qY S.m n
    rcases hld with rfl|⟨rfl,rfl,rfl⟩
    rotate_left
    · cases h with
      | ptr _ _ b hb=>
        simp only[vM]
        split
        · rename_i cs hcs
          obtain⟨hcs,hno⟩:=yC hcs
          obtain⟨vs,t,fr,hh,_,hsz,hc⟩:=(R.boxes id b cs hb hcs).1 hno
          have L:=vP hh hsz hc
          have key:∀(j:Nat) (c:D),(zC (vM S.m n) cs)[j]?=some c->∃d,cs[j]?=some d/\c=zF (vM S.m n) d:=λj c hj=>yX _ _ _ hj
          suffices hfin:yE w S' (.ref (zC (vM S.m n) cs) off) (.pointer (some ⟨b,0+off,none⟩)) by
            rw[Nat.zero_add] at hfin;exact hfin
          refine .ref _ off b 0 (λj=>vs.getD j undef) (xT hf cs L.ok) (hB _ _ (List.mem_of_getElem? hb)) (λj c hj=>?_) (λj c hj=>?_)
          · obtain⟨d,hd,_⟩:=key j c hj
            rw[cell_of_row w b _ vs t fr hh,Nat.zero_add]
            have:=zJ hd
            have:j<vs.size:=by omega
            simp[Array.getD,this]
          · obtain⟨d,hd,rfl⟩:=key j c hj
            have:=zJ hd
            refine zBl hf hV ih (hc.at_ j d _ hd ?_)
            rw[List.getElem?_take_of_lt this]
            have:j<vs.size:=by omega
            simp[Array.getD,this]
        · exact .opq _ rfl
    cases h with
    | rsl _ _ _ _ b cap hk hl hb _=>
      cases hcs:uN S.m id with
      | some cs=>
        rw[zDq hcs hk]
        by_cases hfit:off+len*k<=cs.length
        · simp only[hfit,decide_true,cond_true]
          obtain⟨hcs,hno⟩:=yC hcs
          obtain⟨vs,t,fr,hh,_,hsz,hc⟩:=(R.boxes id b cs hb hcs).1 hno
          have L:=vP hh hsz hc
          have hok0:∀c∈cs.drop off,c.isCell=true:=λc hc=>L.ok c (List.mem_of_mem_drop hc)
          have hok:=xT hf (cs.drop off) hok0
          have hln:len*k<=(zC (vM S.m n) (cs.drop off)).length:=by rw[yG,List.length_drop];omega
          have hcl:=xR k len (zC (vM S.m n) (cs.drop off))
          have key:∀(j:Nat) (c:D),(zV (wI k len (zC (vM S.m n) (cs.drop off))))[j]?=some c->j<len*k/\∃d,cs[off+j]?=some d/\c=zF (vM S.m n) d:=λj c hj=>by
            rw[wS k len _ hk hok hln] at hj
            have hjl:j<len*k:=by
              have:=zJ hj
              simp at this;omega
            rw[List.getElem?_take_of_lt hjl] at hj
            obtain⟨d,hd,hc⟩:=yX _ _ _ hj
            rw[List.getElem?_drop] at hd
            exact⟨hjl,d,hd,hc⟩
          suffices hfin:yE w S' (.slice none k (wI k len (zC (vM S.m n) (cs.drop off)))) (.slice (some ⟨b,off,none⟩) (wI k len (zC (vM S.m n) (cs.drop off))).length cap) by
            rw[hcl] at hfin;exact hfin
          refine .slice none k _ b off cap (λj=>vs.getD (off+j) undef) hk (by rw[hcl];exact hl.1) (by rw[hcl];exact hl.2.1) (zAj k len _ hk hok hln) (λc hc=>?_) (hB _ _ (List.mem_of_getElem? hb)) trivial (λj c hj=>?_) (λj c hj=>?_)
          · rw[wS k len _ hk hok hln] at hc
            exact hok c (List.mem_of_mem_take hc)
          · obtain⟨hjl,_⟩:=key j c hj
            rw[cell_of_row w b _ vs t fr hh]
            have:off+j<vs.size:=by omega
            simp[Array.getD,this]
          · obtain⟨hjl,d,hd,rfl⟩:=key j c hj
            refine zBl hf hV ih (hc.at_ (off+j) d _ hd ?_)
            rw[List.getElem?_take_of_lt (by omega)]
            have:off+j<vs.size:=by omega
            simp[Array.getD,this]
        · simp only[hfit,decide_false,cond_false]
          exact .opq _ rfl
      |none=>simp only[vM,hcs];exact .opq _ rfl
def zCf (w:World) (S:Sh):Sh:={
  mu:=S.mu
  bb:=[]
  tb:=[]
  m:=⟨[],[]⟩
  ok:=λb n=>w.heap.size<=b\/((∃n',n<=n'/\S.ok b n')/\b∉S.bb/\∀id k mk:Nat,S.tb[id]?=some (b,k)->S.m.toks[id]?=some mk->n<=mk*k) }
theorem zXs (b n:Nat) (h:Vis w S b n):Vis w (zCf w S) b n where
  lt:=h.lt
  mu:=h.mu
  bb:=by simp[zCf]
  tb:=λid k mk h=>by simp[zCf] at h
  ok:=⟨n,Nat.le_refl _,.inr ⟨h.ok,h.bb,h.tb⟩⟩
def zHu (X:Ctx):Prop:=∀g cs,X.G g=some cs->zH cs=cs
theorem yKi (hG:zHu X) (R:yI X B w S):yI X B w (zCf w S) where
  bbLen:=rfl
  tbLen:=rfl
  mu:=R.mu
  bbLt:=λb h=>by simp[zCf] at h
  tbLt:=λid b k h=>by simp[zCf] at h
  tbInj:=λid id' b k k' h=>by simp[zCf] at h
  tbBb:=λid b k h=>by simp[zCf] at h
  tbMu:=λid b k h=>by simp[zCf] at h
  bbMu:=λb h=>by simp[zCf] at h
  okNew:=λb n h=>.inl h
  okTok:=λid b k h=>by simp[zCf] at h
  base:=R.base
  bbGe:=λb h=>by simp[zCf] at h
  tbGe:=λid b k h=>by simp[zCf] at h
  bbInj:=λid id' b c c' h=>by simp[zCf] at h
  boxes:=λid b cs h=>by simp[zCf] at h
  toks:=λid b k mk h=>by simp[zCf] at h
  glob:=λg cs h=>by
    have:=zBl (S':=zCf w S) zHf zXs zVy (R.glob g cs h)
    simp only[zF] at this
    have e:zC noR cs=cs:=hG g cs h
    rw[e] at this
    exact this
def zCl (S S':Sh):Sh:={ mu:=S'.mu,bb:=S.bb,tb:=S.tb,m:=S.m,ok:=S.ok }
theorem zNf (R:yI X B w S) (E:Ext w.heap.size w (zCf w S) w' S'):Ext w.heap.size w S w' (zCl S S') where
  os:=E.os
  tape:=E.tape
  output:=E.output
  ok:=rfl
  size:=E.size
  mu:=E.mu
  muNew:=E.muNew
  bb:=λ_ _ h=>h
  bbNew:=λ_ h _=>.inl h
  tb:=λ_ b _ h=>⟨b,h,.inl rfl⟩
  tbNew:=λ_ _ _ h _=>h
  marks:=λ_ mk h=>⟨mk,h,Nat.le_refl _⟩
  markSame:=λ_ _ b k b' _ _ h h'=>by rw[show (zCl S S').tb=S.tb from rfl,h] at h';cases h';rfl
  keep:=λb hl _ _ _=>E.keep b hl (by simp[zCf]) (by simp[zCf]) (.inl hl)
  shp:=λb hb x hx=>(yK (E.keep b (R.bbLt b hb) (by simp[zCf]) (by simp[zCf]) (.inl (R.bbLt b hb)))).trans hx
  lps:=λb hb r hr=>⟨r,(E.keep b (R.bbLt b hb) (by simp[zCf]) (by simp[zCf]) (.inl (R.bbLt b hb))).trans hr⟩
  keepT:=λid b k mk h _ c t fr hc=>⟨c,by rw[E.keep b (R.tbLt id b k h) (by simp[zCf]) (by simp[zCf]) (.inl (R.tbLt id b k h))];exact hc,rfl,λ_ _=>rfl⟩
theorem zZj (R:yI X B w S) (R':yI X B w' S') (E:Ext w.heap.size w (zCf w S) w' S'):yI X B w' (zCl S S'):=
  R.same (zNf R E) rfl rfl rfl (λb h=>by
      rcases Nat.lt_or_ge b w.heap.size with hb|hb
      · exact .inl (E.muNew b h hb)
      · exact .inr ⟨hb,R'.mu b h⟩)
    (λb h=>E.keep b (R.bbLt b h) (by simp[zCf]) (by simp[zCf]) (.inl (R.bbLt b h)))
    (λid b k h=>E.keep b (R.tbLt id b k h) (by simp[zCf]) (by simp[zCf]) (.inl (R.tbLt id b k h)))
theorem zNe (R:yI X B w S) (E:Ext w.heap.size w (zCf w S) w' S') (b n:Nat) (h:Vis w' S' b n):Vis w' (zCl S S') b n:=by
  obtain⟨n',hn,ho⟩:=h.ok
  rw[E.ok] at ho
  refine⟨h.lt,h.mu,?_,?_,?_⟩
  · intro hb
    rcases ho with ho|ho
    · have:=R.bbLt b hb;omega
    · exact ho.2.1 hb
  · intro id k mk h1 h2
    rcases ho with ho|ho
    · have:=R.tbLt id b k h1;omega
    · exact Nat.le_trans hn (ho.2.2 id k mk h1 h2)
  · rcases ho with ho|ho
    · exact⟨n,Nat.le_refl _,R.okNew b n ho⟩
    · obtain⟨n2,h1,h2⟩:=ho.1
      exact⟨n2,Nat.le_trans hn h1,h2⟩
theorem zZk (R:yI X B w S) (R':yI X B w' S') (E:Ext w.heap.size w (zCf w S) w' S') (b n:Nat) (h:b∈S'.bb):Vis w' (zCl S S') b n:=by
  have hge:w.heap.size<=b:=by
    rcases Nat.lt_or_ge b w.heap.size with hb|hb
    · rcases E.bbNew b h hb with h1|⟨_,h1⟩
      · simp[zCf] at h1
      · omega
    · exact hb
  refine⟨R'.bbLt b h,R'.bbMu b h,λhb=>?_,λid k mk h1 _=>?_,⟨n,Nat.le_refl _,R.okNew b n hge⟩⟩
  · have:=R.bbLt b hb;omega
  · have:=R.tbLt id b k h1;omega
theorem yGh (hG:zHu X) {f:Nat} {ds:List D} {Q:D->Mem->Prop} (h:qJ X f ⟨[],[]⟩ (zH ds) Q) (m:Mem):qJ X f m ds λr m'=>(∃r0 m0,Q r0 m0/\r=frz m0 r0)/\m'=m:=by
  refine⟨h.1,λB w S args R hm ha=>?_⟩
  refine(h.2 B w (zCf w S) args (yKi hG R) rfl (yEn zXs ha)).mono λe w' h'=>?_
  obtain⟨v,S',r,rfl,hq,R',E,hv⟩:=h'
  refine⟨v,zCl S S',frz S'.m r,rfl,⟨⟨r,S'.m,hq,rfl⟩,hm⟩,zZj R R' E,zNf R E,?_⟩
  exact zBl (qY _ _) (zNe R E) (zUe R' (zNe R E) (zZk R R' E) _) hv
end
mutual
def yGy :D->Bool
 |.int _ _=>true
 |.bool _=>true
 |.str _=>true
 |.tuple ds=>zCi ds
 |_=>false
def zCi :List D->Bool
 |[]=>true
 |d::r=>match yGy d with|true=>zCi r|false=>false
end
mutual
def frs (m:Mem):D->Bool
 |.int _ _=>true
 |.bool _=>true
 |.str _=>true
 |.nil=>true
 |.rsl id _ _ _=>(match uN m id with|some cs=>zCi cs|none=>false)
 |.agg ds=>yXe m ds
 |.tuple ds=>yXe m ds
 |_=>false
def yXe (m:Mem):List D->Bool
 |[]=>true
 |d::r=>match frs m d with|true=>yXe m r|false=>false
end
theorem zPf {m:Mem}:∀{l:List D},yXe m l=true->∀(j:Nat) (d:D),l[j]?=some d->frs m d=true
 |[],_,j,d,h=>by simp at h
 | a::r,hs,j,d,h=>by
  have hs':(match frs m a with|true=>yXe m r|false=>false)=true:=hs
  cases ha:frs m a with
  |false=>rw[ha] at hs';cases hs'
  |true=>
   rw[ha] at hs'
   cases j with
   |zero=>simp at h;rw[<-h];exact ha
   |succ j=>exact zPf hs' j d (by simpa using h)
mutual
theorem zZu (f:Nat->Nat->Nat->Nat->D):∀(d:D),yGy d=true->zF f d=d
 |.int _ _,_=>rfl
 |.bool _,_=>rfl
 |.str _,_=>rfl
 |.slice _ _ _,h=>by cases h
 |.nil,h=>by cases h
 |.opq,h=>by cases h
 |.rsl _ _ _ _,h=>by cases h
 |.ptr _ _,h=>by cases h
 |.nilptr,h=>by cases h
 |.ref _ _,h=>by cases h
 |.func _ _,h=>by cases h
 |.nilfunc,h=>by cases h
 |.agg _,h=>by cases h
 |.undef,h=>by cases h
 |.tuple ds,h=>by
  have:=zEp f ds h
  show D.tuple (zC f ds)=D.tuple ds
  rw[this]
theorem zEp (f:Nat->Nat->Nat->Nat->D):∀(l:List D),zCi l=true->zC f l=l
 |[],_=>rfl
 | d::r,h=>by
  have h:(match yGy d with|true=>zCi r|false=>false)=true:=h
  cases hd:yGy d with
  |false=>rw[hd] at h;cases h
  |true=>
   rw[hd] at h
   have h1:=zZu f d hd
   have h2:=zEp f r h
   show zF f d::zC f r=d::r
   rw[h1,h2]
end
theorem zNn :∀{l:List D},zCi l=true->∀n,zCi (l.drop n)=true
 |[],_,n=>by simp[zCi]
 |a::r,h,0=>h
 |a::r,h,n+1=>by
  have h0:(match yGy a with|true=>zCi r|false=>false)=true:=h
  cases ha:yGy a with
  |true=>rw[ha] at h0;exact zNn h0 n
  |false=>rw[ha] at h0;cases h0
def yMo (m:Mem) (l:List D):List D:=zC (vM m m.boxes.length) l
theorem zEr (m:Mem) (l:List D):(yMo m l).length=l.length:=yG l
theorem zKv :∀{l:List D},zCi l=true->∀(j:Nat) (d:D),l[j]?=some d->yGy d=true
 |[],_,j,d,h=>by simp at h
 | a::r,hs,j,d,h=>by
  have hs':(match yGy a with|true=>zCi r|false=>false)=true:=hs
  cases ha:yGy a with
  |false=>rw[ha] at hs';cases hs'
  |true=>
   rw[ha] at hs'
   cases j with
   |zero=>simp at h;rw[<-h];exact ha
   |succ j=>exact zKv hs' j d (by simpa using h)
section
variable {X:Ctx} {B N:Nat} {w w' w'':World} {S S' S'':Sh}
theorem yPy {d:D} {v:Value} (h:yE w S d v):yGy d=true->yE w'' S'' d v:=by
 induction h with
 |int k n=>exact λ_=>.int k n
 |bool b=>exact λ_=>.bool b
 |str s=>exact λ_=>.str s
 |tuple ds vs hl hv ih=>exact λhs=>.tuple ds vs hl λj c v hj hv'=>ih j c v hj hv' (zKv hs j c hj)
 |_=>intro hs;cases hs
def wF (w:World) (S:Sh):Sh:={
 mu:=S.mu
 bb:=[]
 tb:=[]
 m:=⟨[],[]⟩
 ok:=λb n=>w.heap.size<=b\/b∈S.bb\/((∃n',n<=n'/\S.ok b n')/\∀id k mk:Nat,S.tb[id]?=some (b,k)->S.m.toks[id]?=some mk->n<=mk*k) }
theorem zLa (b n:Nat) (h:Vis w S b n):Vis w (wF w S) b n where
 lt:=h.lt
 mu:=h.mu
 bb:=by simp[wF]
 tb:=λid k mk h=>by simp[wF] at h
 ok:=⟨n,Nat.le_refl _,.inr (.inr ⟨h.ok,h.tb⟩)⟩
theorem yFp (R:yI X B w S) (b n:Nat) (h:b∈S.bb):Vis w (wF w S) b n where
 lt:=R.bbLt b h
 mu:=R.bbMu b h
 bb:=by simp[wF]
 tb:=λid k mk h=>by simp[wF] at h
 ok:=⟨n,Nat.le_refl _,.inr (.inl h)⟩
theorem yFo (hG:zHu X) (R:yI X B w S):yI X B w (wF w S) where
 bbLen:=rfl
 tbLen:=rfl
 mu:=R.mu
 bbLt:=λb h=>by simp[wF] at h
 tbLt:=λid b k h=>by simp[wF] at h
 tbInj:=λid id' b k k' h=>by simp[wF] at h
 tbBb:=λid b k h=>by simp[wF] at h
 tbMu:=λid b k h=>by simp[wF] at h
 bbMu:=λb h=>by simp[wF] at h
 okNew:=λb n h=>.inl h
 okTok:=λid b k h=>by simp[wF] at h
 base:=R.base
 bbGe:=λb h=>by simp[wF] at h
 tbGe:=λid b k h=>by simp[wF] at h
 bbInj:=λid id' b c c' h=>by simp[wF] at h
 boxes:=λid b cs h=>by simp[wF] at h
 toks:=λid b k mk h=>by simp[wF] at h
 glob:=λg cs h=>by
  have:=zBl (S':=wF w S) zHf zLa zVy (R.glob g cs h)
  simp only[zF] at this
  have e:zC noR cs=cs:=hG g cs h
  rw[e] at this
  exact this
theorem yRn (R:yI X B w S) {ds:List D} {vs:List Value} (h:HasL w S ds vs):HasL w (wF w S) (yMo S.m ds) vs:=
 ⟨by rw[zEr];exact h.len,λj c v hj hv=>by
  obtain⟨d,hd,rfl⟩:=yX _ _ _ hj
  exact zBl (qY _ _) zLa (zUe R zLa (yFp R) _) (h.at_ j d v hd hv)⟩
theorem zLl (R:yI X B w S) (E:Ext w.heap.size w (wF w S) w' S'):Ext w.heap.size w S w' (zCl S S') where
 os:=E.os
 tape:=E.tape
 output:=E.output
 ok:=rfl
 size:=E.size
 mu:=E.mu
 muNew:=E.muNew
 bb:=λ_ _ h=>h
 bbNew:=λ_ h _=>.inl h
 tb:=λ_ b _ h=>⟨b,h,.inl rfl⟩
 tbNew:=λ_ _ _ h _=>h
 marks:=λ_ mk h=>⟨mk,h,Nat.le_refl _⟩
 markSame:=λ_ _ b k b' _ _ h h'=>by rw[show (zCl S S').tb=S.tb from rfl,h] at h';cases h';rfl
 keep:=λb hl _ _ _=>E.keep b hl (by simp[wF]) (by simp[wF]) (.inl hl)
 shp:=λb hb x hx=>(yK (E.keep b (R.bbLt b hb) (by simp[wF]) (by simp[wF]) (.inl (R.bbLt b hb)))).trans hx
 lps:=λb hb r hr=>⟨r,(E.keep b (R.bbLt b hb) (by simp[wF]) (by simp[wF]) (.inl (R.bbLt b hb))).trans hr⟩
 keepT:=λid b k mk h _ c t fr hc=>⟨c,by rw[E.keep b (R.tbLt id b k h) (by simp[wF]) (by simp[wF]) (.inl (R.tbLt id b k h))];exact hc,rfl,λ_ _=>rfl⟩
theorem zUv (R:yI X B w S) (R':yI X B w' S') (E:Ext w.heap.size w (wF w S) w' S'):yI X B w' (zCl S S'):=
 R.same (zLl R E) rfl rfl rfl (λb h=>by
   rcases Nat.lt_or_ge b w.heap.size with hb|hb
   ·exact .inl (E.muNew b h hb)
   ·exact .inr ⟨hb,R'.mu b h⟩)
  (λb h=>E.keep b (R.bbLt b h) (by simp[wF]) (by simp[wF]) (.inl (R.bbLt b h)))
  (λid b k h=>E.keep b (R.tbLt id b k h) (by simp[wF]) (by simp[wF]) (.inl (R.tbLt id b k h)))
theorem yRm (R:yI X B w S) (hB:∀b n,b∈S.bb->Vis w S' b n) (n id off len k:Nat) (v:Value) (h:yE w S (.rsl id off len k) v) {cs:List D} (hcs:uN S.m id=some cs) (hsc:zCi cs=true) :
  yE w S' (vM S.m (n+1) id off len k) v:=by
 have hf:=qY S.m n
 cases h with
 | rsl _ _ _ _ b cap hk hl hb _=>
  rw[zDq hcs hk]
  by_cases hfit:off+len*k<=cs.length
  ·simp only[hfit,decide_true,cond_true]
   obtain⟨hcs,hno⟩:=yC hcs
   obtain⟨vs,t,fr,hh,_,hsz,hc⟩:=(R.boxes id b cs hb hcs).1 hno
   have L:=vP hh hsz hc
   rw[show zC (vM S.m n) (cs.drop off)=cs.drop off from zEp _ _ (zNn hsc off)]
   have hok:∀c∈cs.drop off,c.isCell=true:=λc hc=>L.ok c (List.mem_of_mem_drop hc)
   have hln:len*k<=(cs.drop off).length:=by rw[List.length_drop];omega
   have hcl:=xR k len (cs.drop off)
   have key:∀(j:Nat) (c:D),(zV (wI k len (cs.drop off)))[j]?=some c->j<len*k/\cs[off+j]?=some c:=λj c hj=>by
    rw[wS k len _ hk hok hln] at hj
    have hjl:j<len*k:=by
     have:=zJ hj
     simp at this;omega
    rw[List.getElem?_take_of_lt hjl,List.getElem?_drop] at hj
    exact⟨hjl,hj⟩
   suffices hfin:yE w S' (.slice none k (wI k len (cs.drop off))) (.slice (some ⟨b,off,none⟩) (wI k len (cs.drop off)).length cap) by
    rw[hcl] at hfin;exact hfin
   refine .slice none k _ b off cap (λj=>vs.getD (off+j) undef) hk (by rw[hcl];exact hl.1) (by rw[hcl];exact hl.2.1) (zAj k len _ hk hok hln) (λc hc=>?_) (hB _ _ (List.mem_of_getElem? hb)) trivial (λj c hj=>?_) (λj c hj=>?_)
   ·rw[wS k len _ hk hok hln] at hc
    exact hok c (List.mem_of_mem_take hc)
   ·obtain⟨hjl,_⟩:=key j c hj
    rw[cell_of_row w b _ vs t fr hh]
    have:off+j<vs.size:=by omega
    simp[Array.getD,this]
   ·obtain⟨hjl,hd⟩:=key j c hj
    refine yPy (hc.at_ (off+j) c _ hd ?_) (zKv hsc _ _ hd)
    rw[List.getElem?_take_of_lt (by omega)]
    have:off+j<vs.size:=by omega
    simp[Array.getD,this]
  ·simp only[hfit,decide_false,cond_false]
   exact .opq _ rfl
theorem yKn (R:yI X B w S) (hB:∀b n,b∈S.bb->Vis w S' b n) {d:D} {v:Value} (h:yE w S d v):frs S.m d=true->yE w S' (frz S.m d) v:=by
 induction h with
 |int k n=>exact λ_=>.int k n
 |bool b=>exact λ_=>.bool b
 |str s=>exact λ_=>.str s
 |nil=>exact λ_=>.nil
 | rsl id off len k b cap hk hl hb hsh=>
  intro hs
  have hs:(match uN S.m id with|some cs=>zCi cs|none=>false)=true:=hs
  cases hcs:uN S.m id with
  |none=>rw[hcs] at hs;cases hs
  |some cs=>
   rw[hcs] at hs
   have hid:=(List.getElem?_eq_some_iff.1 (yC hcs).1).1
   obtain⟨N,hN⟩:∃N,S.m.boxes.length=N+1:=⟨S.m.boxes.length-1,by omega⟩
   show yE w S' (vM S.m S.m.boxes.length id off len k) _
   rw[hN]
   exact yRm R hB N id off len k _ (.rsl id off len k b cap hk hl hb hsh) hcs hs
 |agg cs vs hl hcl hv ih=>
  intro hs
  refine .agg (zC (vM S.m S.m.boxes.length) cs) vs (by rw[yG];exact hl) (xT (qY _ _) _ hcl) (λj c v hj hv=>?_)
  obtain⟨d,hd,rfl⟩:=yX _ _ _ hj
  exact ih j d v hd hv (zPf hs j d hd)
 |tuple ds vs hl hv ih=>
  intro hs
  refine .tuple (zC (vM S.m S.m.boxes.length) ds) vs (by rw[yG];exact hl) (λj c v hj hv=>?_)
  obtain⟨d,hd,rfl⟩:=yX _ _ _ hj
  exact ih j d v hd hv (zPf hs j d hd)
 |_=>intro hs;cases hs
theorem zUw (R:yI X B w S) (R':yI X B w' S') (E:Ext w.heap.size w (wF w S) w' S') (b n:Nat) (h:b∈S'.bb):Vis w' (zCl S S') b n:=by
 have hge:w.heap.size<=b:=by
  rcases Nat.lt_or_ge b w.heap.size with hb|hb
  ·rcases E.bbNew b h hb with h1|⟨_,h1⟩
   ·simp[wF] at h1
   ·omega
  ·exact hb
 refine⟨R'.bbLt b h,R'.bbMu b h,λhb=>?_,λid k mk h1 _=>?_,⟨n,Nat.le_refl _,R.okNew b n hge⟩⟩
 ·have:=R.bbLt b hb;omega
 ·have:=R.tbLt id b k h1;omega
theorem yAp (hG:zHu X) {f:Nat} {ds:List D} {m:Mem} {Q:D->Mem->Prop} (h:qJ X f ⟨[],[]⟩ (yMo m ds) Q) (hs:∀r m,Q r m->frs m r=true):qJ X f m ds λr m'=>(∃r0 m0,Q r0 m0/\r=frz m0 r0)/\m'=m:=by
 refine⟨h.1,λB w S args R hm ha=>?_⟩
 refine(h.2 B w (wF w S) args (yFo hG R) rfl (by rw[<-hm];exact yRn R ha)).mono λe w' h'=>?_
 obtain⟨v,S',r,rfl,hq,R',E,hv⟩:=h'
 exact⟨v,zCl S S',frz S'.m r,rfl,⟨⟨r,S'.m,hq,rfl⟩,hm⟩,zUv R R' E,zLl R E,yKn R' (zUw R R' E) hv (hs _ _ hq)⟩
end
end Go.Eng
