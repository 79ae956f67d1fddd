/- Part of the engine that proves it: see the last text. -/
import Derived.Laws.BitsLemmas
import Derived.Deep.Slices
import Derived.DataReads
import Derived.ChangeArms
import GoSem.ClaimJoined
import Derived.Test.YtggiaoaballdgaaGreatDoorJ3
import Derived.Test.YtggiaoaballdgaaGreatDoorJ0
set_option linter.unusedSimpArgs false
set_option linter.unusedVariables false
namespace Go.Eng
open Go
theorem an {a b:Prop} (x:a) (y:b):a/\b:=⟨x,y⟩
theorem an3 {a b c:Prop} (q:a) (r:b) (s:c):a/\b/\c:=⟨q,r,s⟩
theorem an4 {a b c d:Prop} (q:a) (r:b) (s:c) (t:d):a/\b/\c/\d:=⟨q,r,s,t⟩
theorem an5 {a b c d e:Prop} (q:a) (r:b) (s:c) (t:d) (u:e):a/\b/\c/\d/\e:=⟨q,r,s,t,u⟩
theorem an6 {a b c d e f:Prop} (q:a) (r:b) (s:c) (t:d) (u:e) (v:f):a/\b/\c/\d/\e/\f:=⟨q,r,s,t,u,v⟩
theorem an7 {a b c d e f g:Prop} (q:a) (r:b) (s:c) (t:d) (u:e) (v:f) (w:g):a/\b/\c/\d/\e/\f/\g:=⟨q,r,s,t,u,v,w⟩
theorem an8 {a b c d e f g h:Prop} (q:a) (r:b) (s:c) (t:d) (u:e) (v:f) (w:g) (x:h):a/\b/\c/\d/\e/\f/\g/\h:=⟨q,r,s,t,u,v,w,x⟩
theorem an9 {a b c d e f g h i:Prop} (q:a) (r:b) (s:c) (t:d) (u:e) (v:f) (w:g) (x:h) (y:i):a/\b/\c/\d/\e/\f/\g/\h/\i:=⟨q,r,s,t,u,v,w,x,y⟩
theorem gw {A P Q:Prop} (f:A) (h:Q) (e:A->Q->P:=by
 intro f h
 repeat (first|(with_reducible first|refine Go.Eng.q1 ?_|refine Go.Eng.q2 ?_|refine Go.Eng.q3 ?_|refine Go.Eng.q4 ?_|refine Go.Eng.q5 ?_|refine Go.Eng.q6 ?_|refine Go.Eng.q7 ?_|refine Go.Eng.q8 ?_|refine Go.Eng.q9 ?_|refine Go.Eng.q10 ?_|refine Go.Eng.q11 ?_|refine Go.Eng.q12 (by decide) ?_)|((first|with_reducible refine Go.Eng.q13 ?_|((with_reducible refine Go.Eng.q14 ?_ ?_);focus exact rfl));intro K hK;simp +decide only[go_sem,Nat.reduceAdd,Nat.reduceMul,Nat.reduceSub,f];with_reducible refine hK _ ?_;clear hK K)|(with_reducible refine Go.Eng.q15 ?_;intro K J hK hJ;simp +decide only[go_sem,Nat.reduceAdd,Nat.reduceMul,Nat.reduceSub,f];(with_reducible first|refine hK ?_|refine hJ ?_);clear hK hJ K J))
 exact h):P:=e f h
theorem yD (n:Int) (h:-9223372036854775808<=n/\n<=9223372036854775807):IntKind.i64.wrap n=n:=by
 rw[IntKind.wrap_i64];omega
theorem yU (k:Nat) (h:k<4611686018427387904):IntKind.i64.wrap ((k:Int)+1)=((k+1:Nat):Int):=by
 rw[yD _ (by omega)];omega
theorem elm {α:Type} {L:List α} {k:Nat} (h:k<L.length) (hb:k<4611686018427387904):(((k:Int)<(L.length:Int))=True)/\∃a,L[k]?=some a/\IntKind.i64.wrap ((k:Int)+1)=((k+1:Nat):Int):=
 ⟨eq_true (by omega),L[k],List.getElem?_eq_getElem h,yU k hb⟩
def Sl (α:Type):Type:={ l:Option (List α) // (l.getD []).length<4611686018427387904 }
def Sl.items {α:Type} (s:Sl α):List α:=s.1.getD []
def Sl.isNil {α:Type} (s:Sl α):Bool:=s.1.isNone
theorem Sl.lt {α:Type} (s:Sl α):s.items.length<4611686018427387904:=s.2
def sl {α:Type} (k:Nat) (f:α->D) (s:Sl α):D:=match s.1 with|none=>.nil|some l=>.slice none k (l.map f)
section
variable {X:Ctx} {α:Type} (k:Nat) (f:α->D) (s:Sl α)
@[go_sem] theorem yRa (P:Program) (u:Nat):lenT P u (sl k f s)=match zI P u with|some _=>some s.items.length|none=>none:=by
 unfold sl Sl.items
 cases s.1 with
 |none=>rfl
 |some l=>simp only[qN,List.length_map,Option.getD_some];cases zI P u<;>rfl
@[go_sem] theorem yRi (P:Program) (t:Nat) (kk:IntKind) (n:Int):zQf P t (sl k f s) (.int kk n)=match zN P t with
  |some k'=>bif decide (k'=k) then(match atI s.items n with
   |some a=>some (.ref (f a).cells 0)
   |none=>none) else none
  |none=>none:=by
 unfold sl Sl.items
 cases s.1 with
 |none=>
  show none=_
  cases zN P t with
  |none=>rfl
  |some k'=>cases n<;>simp[atI]
 | some l=>
  simp only[qO,Option.getD_some]
  cases zN P t with
  |none=>rfl
  |some k'=>cases n with
   |negSucc a=>simp[atI]
   |ofNat a=>simp only[atI,List.getElem?_map];cases l[a]?<;>rfl
@[go_sem] theorem yZj :(sl k f s).okC=true:=by unfold sl;cases s.1<;>rfl
@[go_sem] theorem zAh :(sl k f s).cells=[sl k f s]:=by unfold sl;cases s.1<;>rfl
@[go_sem] theorem xGx (m:Mem):zY m k (sl k f s)=some (s.items.map f):=by
 unfold sl Sl.items;cases s.1 with
 |none=>rfl
 |some l=>simp[zY]
theorem zL {g:Nat->Nat->Nat->Nat->D} (h:∀x,zF g (f x)=f x):∀l:List α,zC g (l.map f)=l.map f
 |[]=>rfl
 |a::r=>by simp only[List.map_cons,zR,h,zL h r]
theorem xL {g:Nat->Nat->Nat->Nat->D} (h:∀x,zF g (f x)=f x):zF g (sl k f s)=sl k f s:=by
 unfold sl;cases s.1 with
 |none=>rfl
 |some l=>simp only[yY,zL f h]
theorem yKt (P:Program) (t:Nat):eqD P t (sl k f s) .nil=match zI P t with|some _=>some s.isNil|none=>none:=by
 unfold sl Sl.isNil;cases s.1 with
 |none=>simp only[yRv];rfl
 |some l=>simp only[yFy];rfl
end
attribute [go_sem] yKt
def I64 :Type:={ n:Int // -9223372036854775808<=n/\n<=9223372036854775807 }
def I (n:I64):D:=.int .i64 n.1
@[go_sem] theorem xVj (n:I64):I n=.int .i64 n.1:=rfl
def S (s:List UInt8):D:=.str s
@[go_sem] theorem xZe (s:List UInt8):S s=.str s:=rfl
theorem zEm {g:Nat->Nat->Nat->Nat->D} (n:I64):zF g (I n)=I n:=rfl
theorem yPw {g:Nat->Nat->Nat->Nat->D} (n:List UInt8):zF g (S n)=S n:=rfl
@[go_sem] theorem zCu {g:Nat->Nat->Nat->Nat->D} (k:Nat) (s:Sl I64):zF g (sl k I s)=sl k I s:=xL k I s zEm
@[go_sem] theorem zQu {g:Nat->Nat->Nat->Nat->D} (k:Nat) (s:Sl (List UInt8)):zF g (sl k S s)=sl k S s:=xL k S s yPw
@[go_sem] theorem yVc {g:Nat->Nat->Nat->Nat->D} (k k':Nat) (s:Sl (Sl I64)):zF g (sl k (sl k' I) s)=sl k (sl k' I) s:=xL k _ s λx=>zCu k' x
def Sh0 :Sh:={ mu:=λ_=>False,bb:=[],tb:=[],m:=⟨[],[]⟩,ok:=λ_ _=>True }
section
variable {H:Type} {enc:TypeId×Value->H} {P:Program} {W:World}
def Rd (enc:TypeId×Value->H) (P:Program) (W:World) (N:Nat) (t:Nat) {α:Type} (c:α->List D):Prop:=
 ∀(fuel:Nat) (cs:List Value) (x:DataW H×List MemPlace),fuel<N->DataW.trod enc P W 0 (λ_=>true) true fuel t cs=some x->(∀m∈x.1.weights P t,m<=reachBytes)->∃a:α,xN W Sh0 (c a) cs
theorem Rd.mono {N N' t:Nat} {α:Type} {c:α->List D} (h:Rd enc P W N t c) (hn:N'<=N):Rd enc P W N' t c:=
 λfuel cs x hf=>h fuel cs x (Nat.lt_of_lt_of_le hf hn)
theorem Rd.map {N t:Nat} {α β:Type} {c:α->List D} {c':β->List D} (h:Rd enc P W N t c) (g:∀a,∃b,c' b=c a):Rd enc P W N t c':=
 λfuel cs x hf h1 h2=>by
  obtain⟨a,ha⟩:=h fuel cs x hf h1 h2
  obtain⟨b,hb⟩:=g a
  exact⟨b,hb▸ha⟩
theorem zAf {d:D} {v:Value} {S:Sh} (h:yE W S d v) (hc:d.isCell=true):xN W S [d] [v]:=by
 refine⟨⟨rfl,λj c v' hc hv=>?_⟩,λc hm=>?_⟩
 ·cases j with
  |zero=>simp at hc hv;subst hc;subst hv;exact h
  |succ j=>simp at hc
 ·simp at hm;subst hm;exact hc
theorem yMy {N t:Nat} (ht:P.underlying t=some (.int .i64)):Rd enc P W N t (λn:I64=>[.int .i64 n.1]):=by
 intro fuel cs x _ h _
 obtain⟨n,rfl,_,hw⟩:=DataW.trod_int ht h
 have:-9223372036854775808<=n/\n<=9223372036854775807:=by
  simp only[Lit.wf,Bool.and_eq_true,decide_eq_true_eq] at hw
  exact hw
 exact⟨⟨n,this⟩,zAf (.int _ _) rfl⟩
theorem yQh {N t:Nat} (ht:P.underlying t=some .bool):Rd enc P W N t (λb:Bool=>[.bool b]):=by
 intro fuel cs x _ h _
 obtain⟨b,rfl,_⟩:=DataW.trod_bool ht h
 exact⟨b,zAf (.bool _) rfl⟩
theorem yZd {N t:Nat} (ht:P.underlying t=some .string):Rd enc P W N t (λs:List UInt8=>[.str s]):=by
 intro fuel cs x _ h _
 obtain⟨s,rfl,_⟩:=DataW.trod_string ht h
 exact⟨s.data.toList,zAf (by have:=yE.str (w:=W) (S:=Sh0) s.data.toList;simpa using this) rfl⟩
theorem yDq {α:Type} {p:Nat->α->Prop}:∀(n:Nat),(∀i,i<n->∃a,p i a)->∃l:List α,l.length=n/\∀(i:Nat) (a:α),l[i]?=some a->p i a
 |0,_=>⟨[],rfl,λi a h=>by simp at h⟩
 | n+1,h=>by
  obtain⟨l,h1,h2⟩:=yDq n λi hi=>h i (by omega)
  obtain⟨a,ha⟩:=h n (by omega)
  refine⟨l++[a],by simp[h1],λi b hb=>?_⟩
  by_cases hi:i<l.length
  ·rw[List.getElem?_append_left hi] at hb;exact h2 i b hb
  ·rw[List.getElem?_append_right (by omega)] at hb
   have:i=l.length:=by
    by_cases e:i-l.length=0
    ·omega
    ·rw[List.getElem?_eq_none (by simp;omega)] at hb;cases hb
   subst this
   simp at hb;subst hb;rw[h1];exact ha
theorem zSc {k:Nat}:∀{es:List D},(∀d∈es,d.cells.length=k)->∀{j:Nat} {c:D},(zV es)[j]?=some c->∃(i r:Nat) (d:D),j=i*k+r/\r<k/\es[i]?=some d/\d.cells[r]?=some c
 |[],_,j,c,h=>by simp[zV] at h
 | d::es,hk,j,c,h=>by
  have hd:=hk d (by simp)
  simp only[zV] at h
  by_cases hj:j<d.cells.length
  ·rw[List.getElem?_append_left hj] at h
   exact⟨0,j,d,by simp,by omega,rfl,h⟩
  ·rw[List.getElem?_append_right (by omega)] at h
   obtain⟨i,r,e,h1,h2,h3,h4⟩:=zSc (λx hx=>hk x (by simp[hx])) h
   exact⟨i+1,r,e,by rw[Nat.succ_mul];omega,h2,by simpa using h3,h4⟩
theorem zEf {e:TypeId}:∀{l:List (DataW H)} {i:Nat} {d:DataW H},l[i]?=some d->∀m∈d.weights P e,m∈DataW.weightsAll P e l
 |[],i,d,h,m,hm=>by simp at h
 |a::r,0,d,h,m,hm=>by simp at h;subst h;simp only[DataW.weightsAll,List.mem_append];exact .inl hm
 |a::r,i+1,d,h,m,hm=>by simp only[DataW.weightsAll,List.mem_append];exact .inr (zEf (by simpa using h) m hm)
theorem uD :∀{ts:List TypeId} {l:List (DataW H)} {i:Nat} {t:TypeId} {d:DataW H},ts[i]?=some t->l[i]?=some d->∀m∈d.weights P t,m∈DataW.weightsEach P ts l
 |[],l,i,t,d,h,_,m,hm=>by simp at h
 |a::ts,[],i,t,d,_,h,m,hm=>by simp at h
 |a::ts,b::r,0,t,d,h0,h,m,hm=>by simp at h h0;subst h;subst h0;simp only[DataW.weightsEach,List.mem_append];exact .inl hm
 |a::ts,b::r,i+1,t,d,h0,h,m,hm=>by simp only[DataW.weightsEach,List.mem_append];exact .inr (uD (by simpa using h0) (by simpa using h) m hm)
theorem yEb {b j:Nat} {v:Value} (h:W.cell? ⟨b,j,none⟩=some v):b<W.heap.size:=by
 unfold World.cell? at h
 split at h
 ·rename_i c t fr hb
  rcases Nat.lt_or_ge b W.heap.size with h|h
  ·exact h
  ·rw[Array.getElem?_eq_none h] at hb;cases hb
 ·cases h
theorem zZt {base k cap:Nat} (hk0:0<k) {α:Type} {l:List α} {f:α->D} (hc:∀a,(f a).cells.length=k) {a:Addr} (hl:l.length<=cap) (hbig:l.length<=140737488355328)
  (hlp:∀(i:Nat) (a':α),l[i]?=some a'->∃cs',W.cells? base (a.add (i*k)) k=some cs'/\xN W Sh0 (f a').cells cs'):yE W Sh0 (.slice none k (l.map f)) (.slice (some a) l.length cap):=by
 have hsz:∀d∈l.map f,d.cells.length=k:=λd hd=>by obtain⟨a',_,rfl⟩:=List.mem_map.1 hd;exact hc a'
 cases hl0:l with
 |nil=>
  exact .slice0 none k a cap (.inl rfl)
 | cons a0 r=>
  rw[<-hl0]
  have key:∀(i r:Nat) (a':α),l[i]?=some a'->r<k->∃v,W.cell? ⟨a.block,a.off+(i*k+r),none⟩=some v/\∀c,(f a').cells[r]?=some c->yE W Sh0 c v/\c.isCell=true:=λi r a' hi hr=>by
   obtain⟨cs',h1,h2⟩:=hlp i a' hi
   obtain⟨_,h3,h4⟩:=World.cells?_some h1
   have h5:=h4 r hr
   obtain⟨v,hv⟩:∃v,cs'[r]?=some v:=⟨_,List.getElem?_eq_getElem (by omega)⟩
   rw[hv] at h5
   refine⟨v,?_,λc hcc=>⟨h2.at_ r c v hcc hv,h2.cell c (List.mem_of_getElem? hcc)⟩⟩
   have hspot:∀b:Addr,W.cell? b=some v->W.cell? ⟨b.block,b.off,none⟩=some v:=λb hb=>by
    unfold World.cell? at hb ⊢
    split at hb
    ·rename_i hh
     rw[hh]
     split at hb
     ·cases hb
     ·simpa using hb
    ·cases hb
   have h6:=hspot _ h5
   have e1:((a.add (i*k)).add r).block=a.block:=by unfold Addr.add;split<;>split<;>rfl
   have e2:((a.add (i*k)).add r).off=a.off+(i*k+r):=by
    unfold Addr.add
    split<;>split<;>simp_all<;>omega
   rw[e1,e2] at h6
   exact h6
  have hspot:a=⟨a.block,a.off,none⟩:=by
   obtain⟨cs',h1,h2⟩:=hlp 0 a0 (by rw[hl0];rfl)
   obtain⟨_,h3,h4⟩:=World.cells?_some h1
   have h5:=h4 0 hk0
   obtain⟨v,hv⟩:∃v,cs'[0]?=some v:=⟨_,List.getElem?_eq_getElem (by omega)⟩
   rw[hv] at h5
   have e:(a.add (0*k)).add 0=a:=by simp[Addr.add]
   rw[e] at h5
   unfold World.cell? at h5
   split at h5
   ·split at h5
    ·cases h5
    ·rename_i hn
     cases a with
     |mk b o sp=>cases sp with
      |none=>rfl
      |some s=>simp at hn
   ·cases h5
  have hfl:∀(j:Nat) (c:D),(zV (l.map f))[j]?=some c->∃v,W.cell? ⟨a.block,a.off+j,none⟩=some v/\yE W Sh0 c v/\c.isCell=true:=λj c hj=>by
   obtain⟨i,r,d,rfl,hr,hd,hcc⟩:=zSc hsz hj
   rw[List.getElem?_map] at hd
   obtain⟨a',ha',rfl⟩:=Option.map_eq_some_iff.1 hd
   obtain⟨v,hv,hh⟩:=key i r a' ha' hr
   exact⟨v,hv,hh c hcc⟩
  have hes:(l.map f).length=l.length:=by simp
  have hlt:a.block<W.heap.size:=by
   obtain⟨v,hv,_⟩:=key 0 0 a0 (by rw[hl0];rfl) hk0
   exact yEb hv
  have:=yE.slice (w:=W) (S:=Sh0) none k (l.map f) a.block a.off cap (λj=>(W.cell? ⟨a.block,a.off+j,none⟩).getD undef) hk0 (by omega) (by omega) hsz
   (λc hcm=>by
    obtain⟨j,hj⟩:=List.mem_iff_getElem?.1 hcm
    obtain⟨v,_,_,h⟩:=hfl j c hj;exact h)
   ⟨hlt,λh=>h,by simp[Sh0],λid k mk h=>by simp[Sh0] at h,⟨_,Nat.le_refl _,trivial⟩⟩ trivial
   (λj c hj=>by obtain⟨v,hv,_⟩:=hfl j c hj;simp[hv])
   (λj c hj=>by obtain⟨v,hv,h,_⟩:=hfl j c hj;simpa [hv] using h)
  rw[hes,<-hspot] at this
  exact this
theorem zXb {N t e k:Nat} (ht:P.underlying t=some (.slice e)) (hk:P.cellsOf e=k) (hk0:0<k) (hb:1<=P.bytesOf e) {α:Type} {f:α->D} (hc:∀a,(f a).cells.length=k)
  (h:Rd enc P W N e λa=>(f a).cells):Rd enc P W (N+1) t (λs:Sl α=>[sl k f s]):=by
 intro fuel cs x hf hx hw
 rcases DataW.trod_slice ht hx with⟨rfl,rfl⟩|⟨a,len,cap,elems,rest,n,rfl,rfl,rfl,_,hl,hm,hlen,hel,hsp,_⟩
 ·exact⟨⟨none,by simp⟩,zAf .nil rfl⟩
 have hsp:=(hsp rfl).1
 have hw1:(elems.length+rest.length)*P.bytesOf e<=reachBytes:=hw _ (by simp only[DataW.weights,ht];simp)
 have hbig:elems.length<=140737488355328:=by
  have h1:elems.length*1<=(elems.length+rest.length)*P.bytesOf e:=Nat.mul_le_mul (by omega) hb
  have h2:reachBytes<=140737488355328:=by decide
  omega
 obtain⟨l,hll,hlp⟩:=yDq (α:=α) (p:=λi a'=>∃cs',W.cells? 0 (a.add (i*k)) k=some cs'/\xN W Sh0 (f a').cells cs') len λi hi=>by
  have h1:=hel i hi
  obtain⟨y,hy⟩:∃y,elems[i]?=some y:=⟨_,List.getElem?_eq_getElem (by omega)⟩
  rw[hy] at h1
  obtain⟨cs',h2,h3⟩:=Option.bind_eq_some_iff.1 h1
  rw[hk] at h2
  obtain⟨a',ha'⟩:=h n cs' y (by omega) h3 λm hm=>hw m (by
   simp only[DataW.weights,ht]
   refine List.mem_cons_of_mem _ (List.mem_append_left _ (zEf (i:=i) (d:=y.1) ?_ m hm))
   simp[hy])
  exact⟨a',cs',h2,ha'⟩
 refine⟨⟨some l,by show l.length<_;omega⟩,zAf ?_ rfl⟩
 show yE W Sh0 (.slice none k (l.map f)) _
 rw[<-hll]
 exact zZt hk0 hc (by omega) (by omega) hlp
def RdF (enc:TypeId×Value->H) (P:Program) (W:World) (N:Nat) (fs:List Field) (off len:Nat) {α:Type} (c:α->List D):Prop:=
 ∀(n:Nat) (cs:List Value) (xs:List (DataW H×List MemPlace)),n<N->cs.length=len->xs.length=fs.length->
  (∀(i:Nat) (f:Field),fs[i]?=some f->DataW.trod enc P W 0 (λ_=>true) true n f.type ((cs.drop f.offset).take (P.cellsOf f.type))=xs[i]?)->
  (∀(i:Nat) (f:Field) (x:DataW H×List MemPlace),fs[i]?=some f->xs[i]?=some x->∀m∈x.1.weights P f.type,m<=reachBytes)->∃a:α,xN W Sh0 (c a) (cs.drop off)
theorem xN.append {w:World} {S:Sh} {a b:List D} {x y:List Value} (h:xN w S a x) (k:xN w S b y):xN w S (a++b) (x++y):=by
 refine⟨⟨by simp[h.len,k.len],λj c v hc hv=>?_⟩,λc hc=>(List.mem_append.1 hc).elim (h.cell c) (k.cell c)⟩
 by_cases hj:j<a.length
 ·rw[List.getElem?_append_left hj] at hc
  rw[List.getElem?_append_left (by rw[<-h.len];exact hj)] at hv
  exact h.at_ j c v hc hv
 ·rw[List.getElem?_append_right (by omega)] at hc
  rw[List.getElem?_append_right (by rw[<-h.len];omega)] at hv
  exact k.at_ _ c v hc (by rw[h.len];exact hv)
theorem zGx {N off:Nat}:RdF enc P W N [] off off (λ_:Unit=>[]):=by
 intro n cs xs _ hl _ _ _
 refine⟨(),?_⟩
 rw[List.drop_eq_nil_of_le (by omega)]
 exact⟨⟨rfl,λj c v hc=>by simp at hc⟩,λc hc=>by simp at hc⟩
theorem yM {N off len k:Nat} {f:Field} {fs:List Field} {α β:Type} {c:α->List D} {c':β->List D} (ho:f.offset=off) (hk:P.cellsOf f.type=k)
  (h:Rd enc P W N f.type c) (hr:RdF enc P W N fs (off+k) len c'):RdF enc P W N (f::fs) off len (λp:α×β=>c p.1++c' p.2):=by
 intro n cs xs hn hl hx ht hw
 cases xs with
 |nil=>simp at hx
 |cons x xs=>
  have h0:=ht 0 f rfl
  obtain⟨a,ha⟩:=h n _ x hn h0 (hw 0 f x rfl rfl)
  obtain⟨b,hb⟩:=hr n cs xs hn hl (by simpa using hx) (λi g hg=>by simpa using ht (i+1) g (by simpa using hg)) (λi g y hg hy=>hw (i+1) g y (by simpa using hg) (by simpa using hy))
  refine⟨(a,b),?_⟩
  have:=ha.append hb
  rw[ho,hk,<-List.drop_drop,List.take_append_drop] at this
  exact this
theorem zRi {N t len:Nat} {fs:Array Field} (ht:P.underlying t=some (.struct fs)) (hl:P.cellsOf t=len) {α:Type} {c:α->List D} (h:RdF enc P W N fs.toList 0 len c):Rd enc P W (N+1) t c:=by
 intro fuel cs x hf hx hw
 obtain⟨xs,n,rfl,rfl,h1,h2,h3⟩:=DataW.trod_struct ht hx
 have:=h n cs xs (by omega) (by omega) (by simpa using h2) (λi f hi=>h3 i f (by simpa using hi)) (λi f y hi hy m hm=>hw m (by
  simp only[DataW.weights,ht]
  exact uD (i:=i) (t:=f.type) (d:=y.1) (by simp[show fs[i]?=some f by simpa using hi]) (by simp[hy]) m hm))
 simpa using this
end
end Go.Eng
